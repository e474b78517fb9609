/- The statements' own examples. -/
import Derived.Test.YtoodagohkepcpaaB2
import Derived.Test.YtoodagohkepcpaaB4
import Derived.Test.YtoodagohkepcpaaB5
namespace Go.Proofs.Ytoodagohkepcpaa
open Go.RowKit Go.Shelf Go.Proofs.YtoodagohkepcpaaW.PrintWords

/-- Numbers laid by a literal are read. -/
theorem C_lit {W : World} {g : Nat} {xs : List Int} {cs : Array Value} (hb : W.heap[g]? = some (.cells cs 3)) (h : cs.toList = nums .i64 xs) (hl : xs.length ≤ 1000) : Kd.C (Kd.int .i64) W (some ⟨g, 0, none⟩) xs.length xs := by
  refine Kd.C_of_reads (enc := Value.int .i64) (d := (0 : Int)) (h1 := fun _ => rfl) ⟨rfl, by omega, fun hp => ⟨_, rfl, fun i hi => ?_⟩⟩
  rw [add_plain, blk_cell hb i]
  have : cs[i]? = (nums .i64 xs)[i]? := by rw [← h]; simp
  rw [this]
  simp [nums, List.getD_eq_getElem?_getD, List.getElem?_eq_getElem hi]
def exX : List Int := [5, 1, 2, 3, 4, 6]
def exM : List Int := [1, 3, 5]
def exY : List Int := [1, 2, 3, 4, 5, 6]
def exP : List Int := [0, 2, 4]
def exN : ByteArray := ⟨#[120]⟩
def exS : S30 := ⟨1, 1, exY, exP, [⟨2, exN⟩], 0⟩
theorem exX_ok : okWave exX := ⟨by decide, by decide⟩
theorem exM_ok : okMarks exX.length exM := by
  refine ⟨by decide, fun i hi => ?_⟩
  have hi : i < 3 := hi
  obtain rfl | rfl | rfl : i = 0 ∨ i = 1 ∨ i = 2 := by omega
  all_goals decide
theorem exS_ok : okPiece exS := by
  refine ⟨by decide, by decide, by decide, by decide, by decide, ⟨by decide, fun i hi => ?_⟩, ⟨by decide, fun i hi => ?_⟩⟩
  · have hi : i < 3 := hi
    obtain rfl | rfl | rfl : i = 0 ∨ i = 1 ∨ i = 2 := by omega
    all_goals decide
  · have hi : i < 1 := hi
    obtain rfl : i = 0 := by omega
    exact ⟨by decide, by decide, ⟨by decide, by decide, by decide⟩, by decide⟩
theorem exA : sampS 2 exX exM (totS 2 exM) ++ tailS exX exM = [5, 1, 2, 1, 2, 3, 4, 3, 4, 6] := by decide
theorem exB : (pacedF exS 1 2).f2 = [1, 2, 1, 2, 3, 4, 3, 4, 5, 6, 5, 6] := by decide
theorem exC : (pacedF exS 1 2).f4 = [⟨4, exN⟩] := by rfl
theorem exD : readyF 2 [⟨3, 0⟩, ⟨4, 0⟩] 2 = [2, 4] := by decide

/-- Plain elements laid by a literal are read. -/
theorem C_litS {W : World} {g : Nat} {xs : List S32} {cs : Array Value} (hb : W.heap[g]? = some (.cells cs 32)) (h : cs.toList = Flat e32 xs) (hl : xs.length ≤ 1000) : Kd.C k32 W (some ⟨g, 0, none⟩) xs.length xs := by
  refine ⟨rfl, by omega, fun hp => ⟨_, rfl, fun j p hj => ⟨e32 p, e32_len p, e32_K W p, fun i u hu => ?_⟩⟩⟩
  have hi : i < 2 := by
    rcases Nat.lt_or_ge i (e32 p).length with h' | h'
    · exact h'
    · rw [List.getElem?_eq_none h'] at hu; cases hu
  rw [add_plain, blk_cell hb]
  have : cs[j * 2 + i]? = (Flat e32 xs)[j * 2 + i]? := by rw [← h]; simp
  rw [show k32.sz = 2 from rfl, this, Flat_get (enc := e32) (k := 2) e32_len hj hi]
  exact hu
theorem C_litJ {W : World} {g : Nat} {xs : List S82} {cs : Array Value} (hb : W.heap[g]? = some (.cells cs 82)) (h : cs.toList = Flat e82 xs) (hl : xs.length ≤ 1000) : Kd.C k82 W (some ⟨g, 0, none⟩) xs.length xs := by
  refine ⟨rfl, by omega, fun hp => ⟨_, rfl, fun j p hj => ⟨e82 p, e82_len p, e82_K W p, fun i u hu => ?_⟩⟩⟩
  have hi : i < 2 := by
    rcases Nat.lt_or_ge i (e82 p).length with h' | h'
    · exact h'
    · rw [List.getElem?_eq_none h'] at hu; cases hu
  rw [add_plain, blk_cell hb]
  have : cs[j * 2 + i]? = (Flat e82 xs)[j * 2 + i]? := by rw [← h]; simp
  rw [show k82.sz = 2 from rfl, this, Flat_get (enc := e82) (k := 2) e82_len hj hi]
  exact hu

theorem ex1 (A0 A1 : Option Addr) (w : World) (h0 : Kd.C (Kd.int .i64) w A0 6 exX) (h1 : Kd.C (Kd.int .i64) w A1 3 exM) :
    Calls Try.prog 9 #[.agg #[.slice A0 6 6, .slice A1 3 3], .int .i64 2, .int .i64 1] w fun e w' => ∃ As cs Ag cg, e = .returned (.tuple #[.agg #[.slice As 10 cs, .slice Ag 5 cg], .int .i64 0]) ∧ 10 ≤ cs ∧ Kd.C (Kd.int .i64) w' As 10 [5, 1, 2, 1, 2, 3, 4, 3, 4, 6] ∧ Below w.heap.size w w' := by
  have := Stretch_ok 2 A0 A1 6 3 exX exM w h0 (by decide) h1 exX_ok exM_ok (by decide) (by decide) (by decide)
  rw [exA] at this
  refine this.mono ?_
  rintro e w' ⟨⟨As, cs, Ag, cg, rfl, hs, hm⟩, hb⟩
  obtain ⟨A, c, hv, hc, hC⟩ := own_flat (Kd.int .i64) eI_len eI_K hs
  injection hv with e1 _ e2
  subst e1 e2
  exact ⟨As, cs, Ag, cg, rfl, hc, hC, hb⟩
theorem ex2 (A2 A3 A4 : Option Addr) (w : World) (h2 : Kd.C (Kd.int .i64) w A2 6 exY) (h3 : Kd.C (Kd.int .i64) w A3 3 exP) (h4 : Kd.C k32 w A4 1 [⟨2, exN⟩]) :
    Calls Try.prog 10 #[.agg #[.int .i64 1, .int .i64 1, .slice A2 6 6, .slice A3 3 3, .slice A4 1 1, .int .i64 0], .agg #[.int .i64 1, .int .i64 2]] w fun e w' => ∃ As cs Ag cg, e = .returned (.tuple #[.agg #[.int .i64 1, .int .i64 1, .slice As 12 cs, .slice none 0 0, .slice Ag 1 cg, .int .i64 0], .int .i64 0]) ∧ 12 ≤ cs ∧
      Kd.C (Kd.int .i64) w' As 12 [1, 2, 1, 2, 3, 4, 3, 4, 5, 6, 5, 6] ∧ Kd.C k32 w' Ag 1 [⟨4, exN⟩] ∧ Below w.heap.size w w' := by
  have := Paced_ok 1 2 A2 A3 A4 6 3 1 exS w h2 (by decide) h3 h4 (by decide) exS_ok (by decide) (by decide)
  rw [exB, exC] at this
  refine this.mono ?_
  rintro e w' ⟨⟨As, cs, Ag, cg, rfl, hs, hm⟩, hb⟩
  obtain ⟨A, c, hv, hc, hC⟩ := own_flat (Kd.int .i64) eI_len eI_K hs
  injection hv with e1 _ e2
  subst e1 e2
  obtain ⟨A, c, hv, hc', hC'⟩ := own_flat k32 e32_len e32_K hm
  injection hv with e1 _ e2
  subst e1 e2
  exact ⟨As, cs, Ag, cg, rfl, hc, hC, hC', hb⟩
theorem ex3 (A : Option Addr) (w : World) (h : Kd.C k82 w A 2 [⟨3, 0⟩, ⟨4, 0⟩]) :
    Calls Try.prog 26 #[.int .i64 2, .slice A 2 2] w fun e w' => ∃ As cs, e = .returned (.tuple #[.slice As 2 cs, .int .i64 0]) ∧ 2 ≤ cs ∧ Kd.C (Kd.int .i64) w' As 2 [2, 4] ∧ Below w.heap.size w w' := by
  have := Ready_ok 2 A 2 [⟨3, 0⟩, ⟨4, 0⟩] w h (fun i hi => by
    have hi : i < 2 := hi
    obtain rfl | rfl : i = 0 ∨ i = 1 := by omega
    · exact ⟨by decide, by decide⟩
    · exact ⟨by decide, by decide⟩) (by decide) (by decide)
  rw [show ([⟨3, 0⟩, ⟨4, 0⟩] : List S82).length = 2 from rfl, exD] at this
  refine this.mono ?_
  rintro e w' ⟨u, rfl, hs, hb⟩
  obtain ⟨A, c, rfl, hc, hC⟩ := own_flat (Kd.int .i64) (xs := [2, 4]) eI_len eI_K hs
  exact ⟨A, c, rfl, hc, hC, hb⟩

set_option maxRecDepth 100000 in
set_option maxHeartbeats 4000000 in
theorem known_true (w : World) : Calls Try.prog 8 #[] w fun e w' => e = .returned (.bool true) ∧ Below w.heap.size w w' := by
  go_enter Try.func8, Try.ntmps8
  go_wp2_with fail
  refine (ex1 _ _ _ (C_lit (xs := exX) (by repeat (first | (refine blk_new' ?_ _; (simp; done)) | refine blk_alloc ?_ _)) rfl (by decide)) (C_lit (xs := exM) (by repeat (first | (refine blk_new' ?_ _; (simp; done)) | refine blk_alloc ?_ _)) rfl (by decide))).mono ?_
  rintro e w1 ⟨A5, c5, B5, d5, rfl, hc5, hC5, hb⟩
  have hb1 : Below w.heap.size w w1 := below_trans' (below_alloc (below_alloc (Below.refl _ _) _) _) hb
  have H5 := Aside0.mk hC5
  have HB1 := Aside0.mk hb1
  clear hb hb1 hC5
  go_wp2_with fail
  refine (ex2 _ _ _ _ (C_lit (xs := exY) (by repeat (first | (refine blk_new' ?_ _; (simp; done)) | refine blk_alloc ?_ _)) rfl (by decide)) (C_lit (xs := exP) (by repeat (first | (refine blk_new' ?_ _; (simp; done)) | refine blk_alloc ?_ _)) rfl (by decide)) (C_litS (xs := [⟨2, exN⟩]) (by repeat (first | (refine blk_new' ?_ _; (simp; done)) | refine blk_alloc ?_ _)) rfl (by decide))).mono ?_
  rintro e w2 ⟨A6, c6, B6, d6, rfl, hc6, hC6, hS6, hb⟩
  have hb2 : Below w1.heap.size w1 w2 := below_trans' (by repeat (first | exact Below.refl _ _ | apply below_alloc)) hb
  have hq1 := pw_blk_below (b := w1.heap.size) (blk_new' (W := w1) rfl (.cells #[.slice A5 10 c5, .slice B5 5 d5] 24)) (show Below (w1.alloc (.cells #[.slice A5 10 c5, .slice B5 5 d5] 24)).heap.size _ w2 from below_trans' (by repeat (first | exact Below.refl _ _ | apply below_alloc)) hb)
  have HQ1 := Aside0.mk hq1
  have HB2 := Aside0.mk (below_trans' HB1.out hb2)
  have H52 := Aside0.mk (Kd.C_below H5.out hb2)
  have H6 := Aside0.mk hC6
  have HS6 := Aside0.mk hS6
  clear hq1 hb2 hb hC6 hS6 H5 HB1
  go_wp2_with fail
  refine (ex3 _ _ (C_litJ (xs := [⟨3, 0⟩, ⟨4, 0⟩]) (by repeat (first | (refine blk_new' ?_ _; (simp; done)) | refine blk_alloc ?_ _)) rfl (by decide))).mono ?_
  rintro e w3 ⟨A7, c7, rfl, hc7, hC7, hb⟩
  have hb3 : Below w2.heap.size w2 w3 := below_trans' (by repeat (first | exact Below.refl _ _ | apply below_alloc)) hb
  have hq2 := pw_blk_below (b := w2.heap.size) (blk_new' (W := w2) rfl (.cells #[.int .i64 1, .int .i64 1, .slice A6 12 c6, .slice none 0 0, .slice B6 1 d6, .int .i64 0] 30)) (show Below (w2.alloc (.cells #[.int .i64 1, .int .i64 1, .slice A6 12 c6, .slice none 0 0, .slice B6 1 d6, .int .i64 0] 30)).heap.size _ w3 from below_trans' (by repeat (first | exact Below.refl _ _ | apply below_alloc)) hb)
  have hq1 := pw_blk_below HQ1.out hb3
  have f10 : w3.cell? ⟨w1.heap.size, 0, none⟩ = some (.slice A5 10 c5) := blk_cell hq1 0
  have f22 : w3.cell? ⟨w2.heap.size, 2, none⟩ = some (.slice A6 12 c6) := blk_cell hq2 2
  have f24 : w3.cell? ⟨w2.heap.size, 4, none⟩ = some (.slice B6 1 d6) := blk_cell hq2 4
  have H53 := Aside0.mk (Kd.C_below H52.out hb3)
  have H63 := Aside0.mk (Kd.C_below H6.out hb3)
  have HS63 := Aside0.mk (Kd.C_below HS6.out hb3)
  have H73 := Aside0.mk hC7
  have HB3 := Aside0.mk (below_trans' HB2.out hb3)
  have hlt1 : w1.heap.size < w3.heap.size := blk_lt hq1
  have hlt2 : w2.heap.size < w3.heap.size := blk_lt hq2
  clear hq1 hq2 hb3 hb hC7 HQ1 HB2 H52 H6 HS6
  go_wp2_with fail
  refine (Same_true _ _ _ _ [5, 1, 2, 1, 2, 3, 4, 3, 4, 6] _ (Kd.C_below H53.out (below_alloc (Below.refl _ _) _)) hc5 (C_lit (blk_new' rfl _) rfl (by decide)) (by decide) (by decide)).mono ?_
  rintro e w4 ⟨rfl, q, hq⟩
  have hb4 : Below w3.heap.size w3 w4 := by rw [hq]; exact pw_below_drewN (below_alloc (Below.refl _ _) _) q
  clear hq
  replace f22 := pw_cell_below hb4 f22
  replace f24 := pw_cell_below hb4 f24
  have H64 := Aside0.mk (Kd.C_below H63.out hb4)
  have HS64 := Aside0.mk (Kd.C_below HS63.out hb4)
  have H74 := Aside0.mk (Kd.C_below H73.out hb4)
  have HB4 := Aside0.mk (below_trans' HB3.out hb4)
  clear f10 H53 H63 HS63 H73 hb4 HB3
  go_wp2_with fail
  refine (Same_true _ _ _ _ [1, 2, 1, 2, 3, 4, 3, 4, 5, 6, 5, 6] _ (Kd.C_below H64.out (below_alloc (Below.refl _ _) _)) hc6 (C_lit (blk_new' rfl _) rfl (by decide)) (by decide) (by decide)).mono ?_
  rintro e w5 ⟨rfl, q, hq⟩
  have hb5 : Below w4.heap.size w4 w5 := by rw [hq]; exact pw_below_drewN (below_alloc (Below.refl _ _) _) q
  clear hq
  replace f24 := pw_cell_below hb5 f24
  have HS65 := Aside0.mk (Kd.C_below HS64.out hb5)
  have H75 := Aside0.mk (Kd.C_below H74.out hb5)
  have HB5 := Aside0.mk (below_trans' HB4.out hb5)
  obtain ⟨ad, rfl, hs0, _⟩ := at_T32 HS65.out 0 (by decide) (by decide)
  rw [show ad.add ((0 : Int).toNat * 2) = ad from by simp [Addr.add]] at hs0
  replace hs0 : w5.cell? ad = some (.int .i64 4) := hs0
  clear H64 HS64 H74 hb5 HB4 f22
  go_wp2_with fail
  refine (Same_true _ _ _ _ [2, 4] _ (Kd.C_below H75.out (below_alloc (Below.refl _ _) _)) hc7 (C_lit (blk_new' rfl _) rfl (by decide)) (by decide) (by decide)).mono ?_
  rintro e w6 ⟨rfl, q, hq⟩
  have HB6 : Aside0 (Below w.heap.size w w6) := ⟨below_trans' HB5.out (by rw [hq]; exact pw_below_drewN (below_alloc (Below.refl _ _) _) q)⟩
  clear hq hs0 f24 HS65 H75 HB5
  go_wp2_with fail
  go_ret
  exact ⟨rfl, HB6.out⟩
end Go.Proofs.Ytoodagohkepcpaa
