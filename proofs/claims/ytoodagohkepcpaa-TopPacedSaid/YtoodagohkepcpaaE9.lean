/- TopPaced returns true for every input, and its arguments read behind the call as before. -/
import Derived.Test.YtoodagohkepcpaaRows
import Derived.Test.YtoodagohkepcpaaE8
import Derived.WalkKit
import Derived.ProofKit
import Derived.OpenShut
import Derived.ShutString
import Derived.ChangeOld
import Derived.Below
import Derived.SizedLaws
import Derived.Lib.SmallJoins
namespace Go.Proofs.Ytoodagohkepcpaa.topPaced
open Go.ChangeShapes Go.WideShapes Go.ChangeAt Go.RowKit
open Go.Proofs.YtoodagohkepcpaaW.PrintWords (Kd)
open Go.Proofs.YtoodagohkepcpaaW
theorem own : ownKnob Try.prog.godebug = none := by kernel_rfl
theorem laidOut : laidOutB Try.prog = true := by kernel_rfl
/-- A slice of numbers, as an argument's field lays it: what is read of it. -/
theorem field_ints {H : Type} {enc : TypeId × Value → H} {W : World} {base : Nat} {spare : Nat → Bool} {held : Bool} {n : Nat} {v : Value} {y : DataW H × List MemPlace} (h : DataW.trod enc Try.prog W base spare held n 22 [v] = some y) :
    ∃ A c zs, v = .slice A zs.length c ∧ zs.length ≤ c ∧ PrintWords.Kd.C (PrintWords.Kd.int .i64) W A zs.length zs ∧ zs.length ≤ 9223372036854775807 := by
  rcases open_ints Try.underlying22 Try.underlying3 (by kernel_rfl) h with ⟨hcs, _⟩ | ⟨x, l, c, zs, hcs, _, hl, hm, hz, _, hcell, hwz⟩
  · simp at hcs
    subst hcs
    exact ⟨none, 0, [], rfl, Nat.le_refl _, ⟨rfl, by decide, fun hp => absurd hp (by decide)⟩, by decide⟩
  · simp at hcs
    subst hcs
    have hlz : l ≤ zs.length := by rw [hz]; split <;> omega
    have hlen : (zs.take l).length = l := by rw [List.length_take]; omega
    simp only [maxLen] at hm
    refine ⟨some x, c, zs.take l, by rw [hlen], by rw [hlen]; exact hl, ?_, by rw [hlen]; omega⟩
    refine PrintWords.Kd.C_of_reads (enc := Value.int .i64) (d := (0 : Int)) (h1 := fun _ => rfl) ⟨rfl, by rw [hlen]; omega, fun hp => ⟨x, rfl, fun i hi => ?_⟩⟩
    rw [hcell i (by omega)]
    rw [hlen] at hi
    simp [List.getD_eq_getElem?_getD, List.getElem?_take, hi]
set_option maxRecDepth 100000 in
/-- A sign, as it lies in a row. -/
theorem sign_at {H : Type} {enc : TypeId × Value → H} {W : World} {base : Nat} {spare : Nat → Bool} {held : Bool} {n : Nat} {cs : List Value} {y : DataW H × List MemPlace} (h : DataW.trod enc Try.prog W base spare held n 32 cs = some y) :
    ∃ s : S32, cs = e32 s ∧ s.f1.size ≤ 9223372036854775807 := by
  obtain ⟨y0, y1, m, hx, hl, h0, h1⟩ := trod_struct2 Try.underlying32 h
  have e3 : Try.prog.cellsOf 3 = 1 := by kernel_rfl
  have e9 : Try.prog.cellsOf 9 = 1 := by kernel_rfl
  have e2 : Try.prog.cellsOf 32 = 2 := by kernel_rfl
  obtain ⟨z, hz, _⟩ := DataW.trod_int Try.underlying3 h0
  obtain ⟨t, ht, _, hsz⟩ := DataW.trod_string Try.underlying9 h1
  rw [e2] at hl
  rw [e3] at hz
  rw [e9] at ht
  match cs, hl with
  | [c0, c1], _ =>
    simp at hz ht
    subst hz
    subst ht
    exact ⟨⟨z, t⟩, rfl, by simpa only [maxLen] using hsz⟩
theorem add_two (a : Addr) (i j : Nat) : (a.add i).add j = a.add (i + j) := by
  unfold Addr.add
  repeat' split
  all_goals first | rfl | (simp_all; done) | (simp_all [Nat.add_assoc]; done) | omega
theorem list_of {α : Type} {P : Nat → α → Prop} : ∀ n : Nat, (∀ i, i < n → ∃ s, P i s) → ∃ zs : List α, zs.length = n ∧ ∀ i s, zs[i]? = some s → P i s := by
  intro n
  induction n with
  | zero => intro _; exact ⟨[], rfl, by simp⟩
  | succ n ih =>
    intro h
    obtain ⟨zs, hl, hz⟩ := ih fun i hi => h i (by omega)
    obtain ⟨s, hs⟩ := h n (by omega)
    refine ⟨zs ++ [s], by simp [hl], fun i t ht => ?_⟩
    rcases Nat.lt_or_ge i zs.length with hi | hi
    · rw [List.getElem?_append_left hi] at ht
      exact hz i t ht
    · rw [List.getElem?_append_right hi] at ht
      have hi2 : i - zs.length < 1 := by
        rcases Nat.lt_or_ge (i - zs.length) 1 with h' | h'
        · exact h'
        · rw [List.getElem?_eq_none (by simpa using h')] at ht; cases ht
      obtain rfl : i = n := by omega
      rw [show i - zs.length = 0 from by omega] at ht
      simp at ht
      exact ht ▸ hs
set_option maxRecDepth 100000 in
/-- A slice of signs, as an argument's field lays it: what is read of it. -/
theorem field_signs {H : Type} {enc : TypeId × Value → H} {W : World} {base : Nat} {spare : Nat → Bool} {held : Bool} {n : Nat} {v : Value} {y : DataW H × List MemPlace} (h : DataW.trod enc Try.prog W base spare held n 28 [v] = some y) :
    ∃ A c, ∃ zs : List S32, v = .slice A zs.length c ∧ zs.length ≤ c ∧ Kd.C k32 W A zs.length zs ∧ ∀ i : Nat, i < zs.length → (rd_T32 zs (i : Int)).f1.size ≤ 9223372036854775807 := by
  rcases DataW.trod_slice Try.underlying28 h with ⟨hcs, _⟩ | ⟨a, len, cap, elems, rest, m, _, hcs, _, hb, hl, hm, hlen, hel, _, _⟩
  · simp at hcs
    subst hcs
    exact ⟨none, 0, [], rfl, Nat.le_refl _, ⟨rfl, by decide, fun hp => absurd hp (by decide)⟩, by simp⟩
  · simp at hcs
    subst hcs
    have e2 : Try.prog.cellsOf 32 = 2 := by kernel_rfl
    rw [e2] at hel
    obtain ⟨zs, hzl, hz⟩ := list_of (P := fun i (s : S32) => (∀ j u, (e32 s)[j]? = some u → W.cell? (a.add (i * 2 + j)) = some u) ∧ s.f1.size ≤ 9223372036854775807) len (fun i hi => by
      have h1 := hel i hi
      rw [List.getElem?_eq_getElem (by omega), Option.bind_eq_some_iff] at h1
      obtain ⟨cs, hcs, ht⟩ := h1
      obtain ⟨s, rfl, hs⟩ := sign_at ht
      refine ⟨s, fun j u hu => ?_, hs⟩
      have hj : j < 2 := by
        rcases Nat.lt_or_ge j 2 with h' | h'
        · exact h'
        · rw [List.getElem?_eq_none (by rw [e32_len]; exact h')] at hu; cases hu
      have h3 := (World.cells?_some hcs).2.2 j hj
      rw [hu] at h3
      rw [add_two] at h3
      exact h3)
    subst hzl
    simp only [maxLen] at hm
    refine ⟨some a, cap, zs, rfl, hl, ⟨rfl, by omega, fun hp => ⟨_, rfl, fun j p hj => ⟨e32 p, e32_len p, e32_K W p, fun i u hu => (hz j p hj).1 i u hu⟩⟩⟩, fun i hi => ?_⟩
    have := (hz i zs[i] (List.getElem?_eq_getElem hi)).2
    simpa [rd_T32, List.getD_eq_getElem?_getD, hi] using this
theorem array6 {α : Type} {cs : Array α} (h : cs.size = 6) : ∃ c0 c1 c2 c3 c4 c5, cs = #[c0, c1, c2, c3, c4, c5] := by
  obtain ⟨l⟩ := cs
  match l, h with
  | [c0, c1, c2, c3, c4, c5], _ => exact ⟨c0, c1, c2, c3, c4, c5, rfl⟩
set_option maxRecDepth 100000 in
/-- A piece among the arguments, opened. -/
theorem open_piece {H : Type} {enc : TypeId × Value → H} {W : World} {base b0 : Nat} {spare : Nat → Bool} {held : Bool} {v : Value} {d : DataW H} {p : List MemPlace} (hv : Value.okWide Try.prog W .any b0 30 v) (h : DataW.Trod enc Try.prog W base spare held 30 v d p) :
    ∃ (q : S30) (A2 A3 A4 : Option Addr) (c2 c3 c4 : Nat), v = .agg #[.int .i64 q.f0, .int .i64 q.f1, .slice A2 q.f2.length c2, .slice A3 q.f3.length c3, .slice A4 q.f4.length c4, .int .i64 q.f5] ∧
      Kd.C (Kd.int .i64) W A2 q.f2.length q.f2 ∧ q.f2.length ≤ c2 ∧ Kd.C (Kd.int .i64) W A3 q.f3.length q.f3 ∧ Kd.C k32 W A4 q.f4.length q.f4 ∧ q.f4.length ≤ c4 ∧ ∀ i : Nat, i < q.f4.length → (rd_T32 q.f4 (i : Int)).f1.size ≤ 9223372036854775807 := by
  obtain ⟨cs, rfl, hsz⟩ := okWide_struct Try.underlying30 hv
  have e6 : Try.prog.cellsOf 30 = 6 := by kernel_rfl
  have e1 : Try.prog.cellsOf 3 = 1 := by kernel_rfl
  have e2 : Try.prog.cellsOf 22 = 1 := by kernel_rfl
  have e3 : Try.prog.cellsOf 28 = 1 := by kernel_rfl
  obtain ⟨v0, v1, v2, v3, v4, v5, rfl⟩ := array6 (hsz.trans e6)
  obtain ⟨fuel, hf⟩ := h
  obtain ⟨xs, n, _, _, _, hlen, hx⟩ := DataW.trod_struct Try.underlying30 hf
  match xs, hlen with
  | [y0, y1, y2, y3, y4, y5], _ =>
    have h0 : DataW.trod enc Try.prog W base spare held n 3 [v0] = some y0 := by have := hx 0 _ rfl; simpa [Value.cells, e1] using this
    have h1 : DataW.trod enc Try.prog W base spare held n 3 [v1] = some y1 := by have := hx 1 _ rfl; simpa [Value.cells, e1] using this
    have h2 : DataW.trod enc Try.prog W base spare held n 22 [v2] = some y2 := by have := hx 2 _ rfl; simpa [Value.cells, e2] using this
    have h3 : DataW.trod enc Try.prog W base spare held n 22 [v3] = some y3 := by have := hx 3 _ rfl; simpa [Value.cells, e2] using this
    have h4 : DataW.trod enc Try.prog W base spare held n 28 [v4] = some y4 := by have := hx 4 _ rfl; simpa [Value.cells, e3] using this
    have h5 : DataW.trod enc Try.prog W base spare held n 3 [v5] = some y5 := by have := hx 5 _ rfl; simpa [Value.cells, e1] using this
    obtain ⟨z0, k0, _⟩ := DataW.trod_int Try.underlying3 h0
    obtain ⟨z1, k1, _⟩ := DataW.trod_int Try.underlying3 h1
    obtain ⟨z5, k5, _⟩ := DataW.trod_int Try.underlying3 h5
    obtain ⟨A2, c2, z2, rfl, hc2, hC2, _⟩ := field_ints h2
    obtain ⟨A3, c3, z3, rfl, hc3, hC3, _⟩ := field_ints h3
    obtain ⟨A4, c4, z4, rfl, hc4, hC4, hz⟩ := field_signs h4
    simp at k0 k1 k5
    subst k0
    subst k1
    subst k5
    exact ⟨⟨z0, z1, z2, z3, z4, z5⟩, A2, A3, A4, c2, c3, c4, rfl, hC2, hc2, hC3, hC4, hc4, hz⟩

set_option maxHeartbeats 4000000 in
set_option maxRecDepth 100000 in
theorem lifted (os : Os) (started : os.Started) (H : Type) (enc : TypeId × Value → H) :
    ReturnsInHanded {} Try.checked os 4 .any (Rows.topPacedSpec.pre6 enc Try.prog Try.f4 Rows.topPacedRow.domain false) (Rows.topPacedSpec.post enc Try.prog Try.f4 false true false false) := by
  refine returnsInHanded_of_change_sized (C := Try.checked) own started (by kernel_rfl) Try.func4
    (ChangeSpec.witness6 (enc := enc) (C := Try.checked) false ⟨#[], #[.agg #[.int .i64 0, .int .i64 0, .slice none 0 0, .slice none 0 0, .slice none 0 0, .int .i64 0], .agg #[.int .i64 0, .int .i64 0], .slice none 0 0], []⟩ 8 (by kernel_rfl) (by kernel_rfl) (by kernel_rfl) (by kernel_rfl)) ?_
  intro W base args ds gs before hval0 hW hcnd hsz0 _
  have hval : ∀ (j : Nat) t v, Try.f4.params[j]? = some t → args[j]? = some v → Value.okWide Try.prog W .any base t v := hval0
  have hW' := hW
  obtain ⟨p, q, hA0, hV, rfl, hfz, hnd⟩ := hW
  have hA : DataW.TrodAll enc Try.prog W 0 (fun _ => true) true [30, 38, 22] args.toList ds p := hA0
  obtain ⟨v0, vs0, d0, ds0, p0, q0, hargs, rfl, rfl, h0, r0⟩ := trodAll_cons hA
  obtain ⟨v1, vs1, d1, ds1, p1, q1, rfl, rfl, rfl, h1, r1⟩ := trodAll_cons r0
  obtain ⟨v2, vs2, d2, ds2, p2, q2, rfl, rfl, rfl, h2, r2⟩ := trodAll_cons r1
  obtain ⟨rfl, rfl, rfl⟩ := trodAll_nil r2
  obtain rfl : args = #[v0, v1, v2] := by cases args; simp_all
  obtain ⟨rfl, rfl⟩ := trodVars_none hV
  have k0 := h0
  have k1 := h1
  have k2 := h2
  have lt0 : ∀ x ∈ p0, x.block < W.heap.size := by obtain ⟨m, hm⟩ := k0; exact DataW.trod_lt m _ _ _ hm
  have lt1 : ∀ x ∈ p1, x.block < W.heap.size := by obtain ⟨m, hm⟩ := k1; exact DataW.trod_lt m _ _ _ hm
  have lt2 : ∀ x ∈ p2, x.block < W.heap.size := by obtain ⟨m, hm⟩ := k2; exact DataW.trod_lt m _ _ _ hm
  obtain ⟨s, A2, A3, A4, c2, c3, c4, rfl, hC2, hc2, hC3, hC4, hc4, hz⟩ := open_piece (hval 0 30 v0 rfl rfl) h0
  obtain ⟨u0, u1, y0, y1, n, rfl, hd1, hp1, t0, t1⟩ := Go.Joins.open_agg2 Try.underlying38 (by kernel_rfl) (by kernel_rfl) (hval 1 38 v1 rfl rfl) h1
  obtain ⟨z0, e0, _⟩ := DataW.trod_int Try.underlying3 t0
  obtain ⟨z1, e1, _⟩ := DataW.trod_int Try.underlying3 t1
  simp at e0 e1
  subst e0
  subst e1
  obtain ⟨a2, len2, cap2, rfl⟩ := okWide_slice Try.underlying22 (hval 2 22 v2 rfl rfl)
  obtain ⟨fuel2, hf2⟩ := h2
  obtain ⟨Ap, cp, zs, e2, hcp, hCp, _⟩ := field_ints (by simpa [Value.cells] using hf2)
  injection e2 with e3 e4 e5
  subst e3
  subst e4
  subst e5
  clear hA0 hval0 hsz0 t0 t1 h0 h1 hf2
  refine (TopPaced_calls A2 A3 A4 _ c2 c3 c4 _ s z0 z1 zs W hC2 hc2 hC3 hC4 hc4 hz hCp).mono fun e W' ⟨he, bel⟩ => ?_
  subst he
  exact ⟨_, rfl, _, _, _, [], _, [], hW', trodAll_mk1 (shut_bool Try.underlying4 _), (trodAll_cons_mk (Below.trod laidOut (by kernel_rfl) (of_decide_eq_true (by kernel_rfl)) k0 bel lt0) (trodAll_cons_mk (Below.trod laidOut (by kernel_rfl) (of_decide_eq_true (by kernel_rfl)) k1 bel lt1) (trodAll_cons_mk (Below.trod laidOut (by kernel_rfl) (of_decide_eq_true (by kernel_rfl)) k2 bel lt2) trodAll_mk0))), rfl, bel.frame _, fun h => by cases h⟩
theorem over : Rows.topPacedRow.holds Try.pinned (OpenSpec.ofChange Rows.topPacedSpec) :=
  OpenClaim.holds_of_wide 4 Try.f4 rfl rfl rfl rfl rfl rfl rfl ⟨rfl, rfl, rfl, rfl, rfl⟩ rfl rfl rfl rfl rfl (by kernel_rfl) Try.func4 (by kernel_rfl)
    (of_decide_eq_true (by kernel_rfl)) (by unfold Func.isWrapper; first | (rw [if_pos (by decide +kernel)]; kernel_rfl) | (rw [if_neg (by decide +kernel)]; exact ⟨rfl, rfl⟩))
    (fun os started H enc _ => lifted os started H enc)
theorem proved : Rows.TopPacedSaid := over
end Go.Proofs.Ytoodagohkepcpaa.topPaced
namespace Go.Proofs.Ytoodagohkepcpaa
/-- The row, under a short name, for the claim. -/
theorem topPaced_holds : Rows.TopPacedSaid := topPaced.proved
#print axioms topPaced_holds
end Go.Proofs.Ytoodagohkepcpaa
