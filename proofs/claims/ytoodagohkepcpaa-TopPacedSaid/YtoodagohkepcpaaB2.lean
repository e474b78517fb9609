/- A stretched wave: the exported function. -/
import Derived.Test.YtoodagohkepcpaaA10
namespace Go.Proofs.Ytoodagohkepcpaa
open Go.RowKit Go.Shelf Go.Proofs.YtoodagohkepcpaaW.PrintWords

set_option maxRecDepth 100000 in
set_option maxHeartbeats 4000000 in
theorem Stretch_ok (k : Nat) (A0 A1 : Option Addr) (c0 c1 : Nat) (xs ms : List Int) (w : World)
    (h0 : Kd.C (Kd.int .i64) w A0 xs.length xs) (hc0 : xs.length ≤ c0) (h1 : Kd.C (Kd.int .i64) w A1 ms.length ms) (hx : okWave xs) (hk : okMarks xs.length ms) (hml : ms.length ≤ 1000)
    (hk1 : 1 ≤ k ∧ k ≤ 8) (htot : 8 * xs.length ≤ 100000) :
    Calls Try.prog 9 #[.agg #[.slice A0 xs.length c0, .slice A1 ms.length c1], .int .i64 k, .int .i64 1] w
      fun e w' => (∃ As cs Ag cg, e = .returned (.tuple #[.agg #[.slice As (sampS k xs ms (totS k ms) ++ tailS xs ms).length cs, .slice Ag (totS k ms + 1) cg], .int .i64 0]) ∧
        w'.ownsRow w.heap.size 3 1 (.slice As (sampS k xs ms (totS k ms) ++ tailS xs ms).length cs) (sampS k xs ms (totS k ms) ++ tailS xs ms).length (Flat eI (sampS k xs ms (totS k ms) ++ tailS xs ms)) ∧
        w'.ownsRow w.heap.size 3 1 (.slice Ag (totS k ms + 1) cg) (totS k ms + 1) (Flat eI (markS k xs ms (totS k ms)))) ∧ Below w.heap.size w w' := by
  have HP := Aside0.mk (fun (W : World) (Bh : Nat) (hb : Below w.heap.size w W) (hh : W.heap[Bh]? = some (.cells #[.func (.func 31) #[] #[]] 94)) => callsIn_wide.1 (changed_in 5 (by omega) k Bh A0 A1 c0 c1 xs ms W (Kd.C_below h0 hb) hc0 (Kd.C_below h1 hb) hx hk hml hk1 hh htot))
  have HL : Aside0 ((sampS k xs ms (totS k ms) ++ tailS xs ms).length = (sampS k xs ms (totS k ms) ++ tailS xs ms).length) := ⟨rfl⟩
  clear h0 hc0 h1 hx hk hml hk1 htot
  generalize (sampS k xs ms (totS k ms) ++ tailS xs ms) = ys at *
  generalize (markS k xs ms (totS k ms)) = qs at *
  generalize totS k ms + 1 = nq at *
  go_enter Try.func9, Try.ntmps9
  go_wp2_with fail
  have hB0 : Below w.heap.size w (((w.alloc (.cells #[.slice A0 xs.length c0, .slice A1 ms.length c1] 24)).alloc (.cells #[.slice none 0 0, .slice none 0 0] 24)).alloc (.cells #[.func (.func 31) #[] #[]] 94)) := by repeat (first | exact Below.refl _ _ | apply below_alloc)
  have hh : (((w.alloc (.cells #[.slice A0 xs.length c0, .slice A1 ms.length c1] 24)).alloc (.cells #[.slice none 0 0, .slice none 0 0] 24)).alloc (.cells #[.func (.func 31) #[] #[]] 94)).heap[w.heap.size + 1 + 1]? = some (.cells #[.func (.func 31) #[] #[]] 94) := blk_new' (by simp) _
  have hr : (((w.alloc (.cells #[.slice A0 xs.length c0, .slice A1 ms.length c1] 24)).alloc (.cells #[.slice none 0 0, .slice none 0 0] 24)).alloc (.cells #[.func (.func 31) #[] #[]] 94)).heap[w.heap.size + 1]? = some (.cells #[.slice none 0 0, .slice none 0 0] 24) := by repeat (first | (refine blk_new' ?_ _; (simp; done)) | refine blk_alloc ?_ _)
  generalize (((w.alloc (.cells #[.slice A0 xs.length c0, .slice A1 ms.length c1] 24)).alloc (.cells #[.slice none 0 0, .slice none 0 0] 24)).alloc (.cells #[.func (.func 31) #[] #[]] 94)) = X0 at *
  refine (HP.out X0 _ hB0 hh).mono ?_
  rintro e w3 ⟨⟨As, cs, Ag, cg, rfl, hs, hm⟩, hb⟩
  replace hs := own_weak hs hB0.size
  replace hm := own_weak hm hB0.size
  have hr0 := pw_blk_below hr hb
  have hb3 := below_trans' hB0 hb
  have hfr0 : w3.frozen? ⟨w.heap.size + 1, 0, none⟩ = false := blk_frozen hr0 0
  have hcr0 : w3.cell? ⟨w.heap.size + 1, 0, none⟩ = some (.slice none 0 0) := blk_cell hr0 0
  have hr1 := blk_put hr0 0 (.slice As ys.length cs) rfl
  have hfr1 : (w3.setCell ⟨w.heap.size + 1, 0, none⟩ (.slice As ys.length cs)).frozen? ⟨w.heap.size + 1, 1, none⟩ = false := blk_frozen hr1 1
  have hcr1 : (w3.setCell ⟨w.heap.size + 1, 0, none⟩ (.slice As ys.length cs)).cell? ⟨w.heap.size + 1, 1, none⟩ = some (.slice none 0 0) := blk_cell hr1 1
  have hr2 := blk_put hr1 1 (.slice Ag nq cg) rfl
  have HS8 := Aside0.mk (own_far (own_far hs (a := ⟨w.heap.size + 1, 0, none⟩) (own_ne hs hr0 (by decide)) (.slice As ys.length cs)) (a := ⟨w.heap.size + 1, 1, none⟩) (own_ne (own_far hs (a := ⟨w.heap.size + 1, 0, none⟩) (own_ne hs hr0 (by decide)) (.slice As ys.length cs)) hr1 (by decide)) (.slice Ag nq cg))
  have HM8 := Aside0.mk (own_far (own_far hm (a := ⟨w.heap.size + 1, 0, none⟩) (own_ne hm hr0 (by decide)) (.slice As ys.length cs)) (a := ⟨w.heap.size + 1, 1, none⟩) (own_ne (own_far hm (a := ⟨w.heap.size + 1, 0, none⟩) (own_ne hm hr0 (by decide)) (.slice As ys.length cs)) hr1 (by decide)) (.slice Ag nq cg))
  have HB8 := Aside0.mk ((hb3.setCell (p := ⟨w.heap.size + 1, 0, none⟩) (by dsimp only; omega) (.slice As ys.length cs)).setCell (p := ⟨w.heap.size + 1, 1, none⟩) (by dsimp only; omega) (.slice Ag nq cg))
  have HR8 := Aside0.mk hr2
  clear hs hm hr hr0 hr1 hr2 hb hb3 hB0 hh HP
  go_wp2_with fail
  refine bodyPost_ret (results_cell_row_tmp (p := 6) (u := 7) (ty := 24) rfl _ _ (w.heap.size + 1) 24 _ (0, 0) _ rfl HR8.out Try.underlying24 rfl (by kernel_rfl)) rfl ?_
  exact ⟨⟨As, cs, Ag, cg, rfl, HS8.out, HM8.out⟩, HB8.out⟩
end Go.Proofs.Ytoodagohkepcpaa
