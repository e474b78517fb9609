/- What is heard of a piece, in portions. -/
import Derived.Test.YtoodagohkepcpaaE3
import Derived.Test.YtoodagohkepcpaaC2
namespace Go.Proofs.Ytoodagohkepcpaa
open Go.RowKit Go.Shelf Go.Proofs.YtoodagohkepcpaaW.PrintWords
set_option maxRecDepth 100000

/-- What lies in memory between two portions. -/
structure TkI (w : World) (Bs Bl Br Bg : Nat) (x : St) (l : List Int) (hv nv : Value) (wr : World) : Prop where
  ex : ∃ cls : Nat → Nat, (∀ b, b < w.heap.size → cls b = 0) ∧ SpAt cls 1 wr Bs Bl Br Bg x.s ∧ LedAt cls wr Bg x.g ∧ wr.ownsRow w.heap.size 3 1 hv l.length (Flat eI l) ∧ wr.ownsRow w.heap.size 75 4 nv x.ns.length (Flat e75 x.ns) ∧
    (∀ b, hv.ownBlock = some b ∨ nv.ownBlock = some b → cls b = 0) ∧ Below w.heap.size w wr
theorem below_keeps {w X X' : World} {p : Nat → Prop} (h : Below w.heap.size w X) (hK : Keeps p X X') (hp : ∀ b, b < w.heap.size → p b) : Below w.heap.size w X' :=
  ⟨hK.os.trans h.os, hK.tape.trans h.tape, hK.output.trans h.output, Nat.le_trans h.size hK.size, fun b hb => (hK.block b (hp b hb) (Nat.lt_of_lt_of_le hb h.size)).trans (h.block b hb)⟩
/-- A row of nobody's is appended to. -/
theorem TkI.grow {cls : Nat → Nat} {W W' : World} {Bs Bl Br Bg : Nat} {s : Sp} {g : Gr} {row : Option Nat} (hS : SpAt cls 1 W Bs Bl Br Bg s) (hL : LedAt cls W Bg g) (hg : W.grownBy W' row) (hr : ∀ b, row = some b → cls b = 0) :
    SpAt (newCls cls W.heap.size 0) 1 W' Bs Bl Br Bg s ∧ LedAt (newCls cls W.heap.size 0) W' Bg g := by
  have hold := newCls_old cls W.heap.size 0
  refine ⟨(hS.again hold).moved (fun b hb hl => hg.block b hl (fun e => ?_)), (hL.again hold).moved (fun b hb hl => hg.block b hl (fun e => ?_))⟩
  · have := hr b e.symm
    rw [hold b hl] at hb
    omega
  · have := hr b e.symm
    rw [hold b hl] at hb
    omega
theorem place_cls {cls : Nat → Nat} {W : World} {u v : Value} {B : Nat} (hp : u.ownBlock = v.ownBlock ∨ u.ownBlock = some W.heap.size) (hlt : ∀ b, v.ownBlock = some b → b < W.heap.size) (h0 : ∀ b, v.ownBlock = some b → cls b = 0) : ∀ b, u.ownBlock = some b → newCls cls W.heap.size 0 b = 0 := by
  intro b hb
  rcases hp with h | h
  · rw [h] at hb
    rw [newCls_old _ _ _ b (hlt b hb)]
    exact h0 b hb
  · rw [h] at hb
    injection hb with hb
    exact newCls_new _ _ _ (by omega)
theorem own_C75 {w : World} {base : Nat} {A : Option Addr} {c : Nat} {xs : List S75} (h : w.ownsRow base 75 4 (.slice A xs.length c) xs.length (Flat e75 xs)) : Cells w A xs.length (Flat e75 xs) := by
  intro hn
  rcases h.2 with ⟨_, h0⟩ | ⟨g, cap, cur, hv, _⟩
  · omega
  · injection hv with hv _ _
    subst hv
    exact ⟨_, rfl, fun j u hu => h.cells (g := g) rfl j u hu⟩
/-- A portion is appended. -/
theorem TkI.next {w X X1 X2 : World} {Bs Bl Br Bg : Nat} {cls : Nat → Nat} {s : Sp} {g : Gr} {l l2 : List Int} {ns ns2 : List S75} {hv nv hv' nv' : Value}
    (h0 : ∀ b, b < w.heap.size → cls b = 0) (hS : SpAt cls 1 X Bs Bl Br Bg s) (hL : LedAt cls X Bg g) (hB : Below w.heap.size w X) (ho : X.ownsRow w.heap.size 3 1 hv l.length (Flat eI l)) (hn : X.ownsRow w.heap.size 75 4 nv ns.length (Flat e75 ns))
    (hc : ∀ b, hv.ownBlock = some b ∨ nv.ownBlock = some b → cls b = 0) (hA : Appended X X1 w.heap.size 3 1 hv hv' (l.length + l2.length) (Flat eI l ++ Flat eI l2)) (hA2 : Appended X1 X2 w.heap.size 75 4 nv nv' (ns.length + ns2.length) (Flat e75 ns ++ Flat e75 ns2)) :
    TkI w Bs Bl Br Bg ⟨s, g, ns ++ ns2⟩ (l ++ l2) hv' nv' X2 := by
  obtain ⟨hS1, hL1⟩ := TkI.grow hS hL hA.grown (fun b hb => hc b (.inl hb))
  have hn1 := hn.kept hA.grown (own_type_ne hn ho (by decide))
  have hcn : ∀ b, nv.ownBlock = some b → newCls cls X.heap.size 0 b = 0 := fun b hb => by rw [newCls_old _ _ _ b (own_lt hn b hb)]; exact hc b (.inr hb)
  obtain ⟨hS2, hL2⟩ := TkI.grow hS1 hL1 hA2.grown hcn
  have hch := place_cls (cls := cls) (B := 0) hA.place (fun b hb => own_lt ho b hb) (fun b hb => hc b (.inl hb))
  have hcn2 := place_cls (cls := newCls cls X.heap.size 0) (B := 0) hA2.place (fun b hb => own_lt hn1 b hb) hcn
  have ho1 := hA.own
  rw [← Flat_append] at ho1
  have ho2 := ho1.kept hA2.grown (own_type_ne ho1 hn1 (by decide))
  have hn2 := hA2.own
  rw [← Flat_append] at hn2
  refine ⟨_, fun b hb => ?_, hS2, hL2, by rw [List.length_append]; exact ho2, by rw [List.length_append]; exact hn2, ?_, ?_⟩
  · have hbX := Nat.lt_of_lt_of_le hb hB.size
    rw [newCls_old _ _ _ b (Nat.lt_of_lt_of_le hbX hA.grown.size), newCls_old _ _ _ b hbX]
    exact h0 b hb
  · rintro b (hb | hb)
    · rw [newCls_old _ _ _ b (own_lt ho1 b hb)]
      exact hch b hb
    · exact hcn2 b hb
  · exact (hB.grown hA.grown hB.size (own_base ho)).grown hA2.grown (Nat.le_trans hB.size hA.grown.size) (own_base hn1)

/-- The portions, with the last one. -/
def portF (l : List Int) : List Nat := l.map Int.toNat ++ [500]
def portN (l : List Int) (j : Nat) : Nat := ((portF l).take j).sum
theorem portF_length (l : List Int) : (portF l).length = l.length + 1 := by simp [portF]
theorem portN_succ (l : List Int) {j : Nat} (h : j < (portF l).length) : portN l (j + 1) = portN l j + (portF l)[j] := by
  unfold portN
  rw [List.take_succ_eq_append_getElem h, List.sum_append]
  simp
theorem portF_at (l : List Int) {j : Nat} (h : j < l.length) (hb : 0 ≤ rd l (j : Int)) : (((portF l)[j]'(by rw [portF_length]; omega) : Nat) : Int) = rd l (j : Int) := by
  have e : rd l (j : Int) = l[j] := by simp [rd, List.getD_eq_getElem?_getD, h]
  have e2 : (portF l)[j]'(by rw [portF_length]; omega) = l[j].toNat := by
    unfold portF
    rw [List.getElem_append_left (by simpa using h)]
    simp
  rw [e2]
  rw [e] at hb ⊢
  omega
theorem portF_last (l : List Int) : (portF l)[l.length]'(by rw [portF_length]; omega) = 500 := by
  unfold portF
  rw [List.getElem_append_right (by simp)]
  simp
theorem portF_le (l : List Int) (hb : ∀ i : Nat, i < l.length → rd l (i : Int) ≤ 200) : ∀ j (h : j < (portF l).length), (portF l)[j] ≤ 500 := by
  intro j h
  rw [portF_length] at h
  by_cases hj : j < l.length
  · have e : rd l (j : Int) = l[j] := by simp [rd, List.getD_eq_getElem?_getD, hj]
    have e2 : (portF l)[j]'(by rw [portF_length]; omega) = l[j].toNat := by
      unfold portF
      rw [List.getElem_append_left (by simpa using hj)]
      simp
    have := hb j hj
    rw [e2]
    rw [e] at this
    omega
  · obtain rfl : j = l.length := by omega
    rw [portF_last]
    exact Nat.le_refl _
theorem portN_le (l : List Int) (hb : ∀ i : Nat, i < l.length → rd l (i : Int) ≤ 200) : ∀ j, j ≤ (portF l).length → portN l j ≤ 500 * j := by
  intro j
  induction j with
  | zero => intro _; simp [portN]
  | succ j ih =>
    intro h
    rw [portN_succ l (by omega)]
    have := ih (by omega)
    have := portF_le l hb j (by omega)
    omega
theorem portN_total (l : List Int) : 500 ≤ portN l (l.length + 1) := by
  rw [portN_succ l (by rw [portF_length]; omega), portF_last]
  omega
end Go.Proofs.Ytoodagohkepcpaa
