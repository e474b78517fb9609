/- A piece at a pace: the exported function. -/
import Derived.Test.YtoodagohkepcpaaA6
namespace Go.Proofs.Ytoodagohkepcpaa
open Go.RowKit Go.Shelf Go.Proofs.YtoodagohkepcpaaW.PrintWords

theorem results_cell_row_tmp {P : Program} {fn : Func} {p u : Tmp} {ty : TypeId} (h : fn.results = #[.cell p ty, .tmp u]) (tmps : Array Value) (w : World) (g : Nat) (t : TypeId) (cs : Array Value) (fr : Nat × Nat) (d : TypeDesc)
    (hp : tmps.getD p undef = .pointer (some ⟨g, 0, none⟩)) (hg : w.heap[g]? = some (.cells cs t fr))
    (hu : P.underlying ty = some d) (hd : (match d with | .struct _ | .array _ _ => true | _ => false) = true) (hi : (P.info? ty).map (·.size) = some cs.size) :
    (results fn tmps).run P w = .ok (.tuple #[.agg cs, tmps.getD u undef]) w := by
  have hp' : tmps[p]?.getD undef = .pointer (some ⟨g, 0, none⟩) := by simpa using hp
  rw [results_cell_tmp h]
  simp [hp', asAddr, run_loadVar_row w g t ty cs fr d hg hu hd hi, Result.andThen]
theorem own_weak {w : World} {base base' : Nat} {e : TypeId} {size n : Nat} {v : Value} {xs : List Value} (h : w.ownsRow base e size v n xs) (hb : base' ≤ base) : w.ownsRow base' e size v n xs := by
  refine ⟨h.1, ?_⟩
  rcases h.2 with h2 | ⟨g, cap, cur, h1, h2, h3⟩
  · exact .inl h2
  · exact .inr ⟨g, cap, cur, h1, Nat.le_trans hb h2, h3⟩

set_option maxRecDepth 100000 in
set_option maxHeartbeats 4000000 in
theorem Paced_ok (num den : Int) (A2 A3 A4 : Option Addr) (c2 c3 c4 : Nat) (p : S30) (w : World)
    (h2 : Kd.C (Kd.int .i64) w A2 p.f2.length p.f2) (hc2 : p.f2.length ≤ c2) (h3 : Kd.C (Kd.int .i64) w A3 p.f3.length p.f3) (h4 : Kd.C k32 w A4 p.f4.length p.f4) (hc4 : p.f4.length ≤ c4) (hp : okPiece p)
    (hnum : 1 ≤ num ∧ num ≤ 8) (hden : 1 ≤ den ∧ den ≤ 8) :
    Calls Try.prog 10 #[.agg #[.int .i64 p.f0, .int .i64 p.f1, .slice A2 p.f2.length c2, .slice A3 p.f3.length c3, .slice A4 p.f4.length c4, .int .i64 p.f5], .agg #[.int .i64 num, .int .i64 den]] w
      fun e w' => (∃ As cs Ag cg, e = .returned (.tuple #[.agg #[.int .i64 p.f0, .int .i64 p.f1, .slice As (pacedF p num den).f2.length cs, .slice none 0 0, .slice Ag (pacedF p num den).f4.length cg, .int .i64 p.f5], .int .i64 0]) ∧
        w'.ownsRow w.heap.size 3 1 (.slice As (pacedF p num den).f2.length cs) (pacedF p num den).f2.length (Flat eI (pacedF p num den).f2) ∧
        w'.ownsRow w.heap.size 32 2 (.slice Ag (pacedF p num den).f4.length cg) (pacedF p num den).f4.length (Flat e32 (pacedF p num den).f4)) ∧ Below w.heap.size w w' := by
  have HV := Aside0.mk (fun (W : World) (hb : Below w.heap.size w W) => valid_ok A2 A3 A4 c2 c3 c4 p W (Kd.C_below h2 hb) (Kd.C_below h3 hb) (Kd.C_below h4 hb) hp)
  have HP := Aside0.mk (fun (W : World) (hb : Below w.heap.size w W) => callsIn_wide.1 (paced_in 5 (by omega) num den A2 A3 A4 c2 c3 c4 p W (Kd.C_below h2 hb) hc2 (Kd.C_below h3 hb) (Kd.C_below h4 hb) hc4 hp hnum hden))
  have HN := Aside0.mk (fun (W : World) => pace_ok num den W hnum hden)
  clear h2 hc2 h3 h4 hc4 hp hnum hden
  generalize (pacedF p num den) = q at *
  obtain ⟨f0, f1, xs, ps, ss, f5⟩ := p
  obtain ⟨g0, g1, ys, qs, ts, g5⟩ := q
  dsimp only at *
  go_enter Try.func10, Try.ntmps10
  go_wp2_with fail
  have hB0 : Below w.heap.size w (((w.alloc (.cells #[.int .i64 f0, .int .i64 f1, .slice A2 xs.length c2, .slice A3 ps.length c3, .slice A4 ss.length c4, .int .i64 f5] 30)).alloc (.cells #[.int .i64 num, .int .i64 den] 38)).alloc (.cells #[.int .i64 0, .int .i64 0, .slice none 0 0, .slice none 0 0, .slice none 0 0, .int .i64 0] 30)) := by repeat (first | exact Below.refl _ _ | apply below_alloc)
  have hs : (((w.alloc (.cells #[.int .i64 f0, .int .i64 f1, .slice A2 xs.length c2, .slice A3 ps.length c3, .slice A4 ss.length c4, .int .i64 f5] 30)).alloc (.cells #[.int .i64 num, .int .i64 den] 38)).alloc (.cells #[.int .i64 0, .int .i64 0, .slice none 0 0, .slice none 0 0, .slice none 0 0, .int .i64 0] 30)).heap[w.heap.size]? = some (.cells #[.int .i64 f0, .int .i64 f1, .slice A2 xs.length c2, .slice A3 ps.length c3, .slice A4 ss.length c4, .int .i64 f5] 30) := by repeat (first | (refine blk_new' ?_ _; (simp; done)) | refine blk_alloc ?_ _)
  have ht : (((w.alloc (.cells #[.int .i64 f0, .int .i64 f1, .slice A2 xs.length c2, .slice A3 ps.length c3, .slice A4 ss.length c4, .int .i64 f5] 30)).alloc (.cells #[.int .i64 num, .int .i64 den] 38)).alloc (.cells #[.int .i64 0, .int .i64 0, .slice none 0 0, .slice none 0 0, .slice none 0 0, .int .i64 0] 30)).heap[w.heap.size + 1]? = some (.cells #[.int .i64 num, .int .i64 den] 38) := by repeat (first | (refine blk_new' ?_ _; (simp; done)) | refine blk_alloc ?_ _)
  have hr : (((w.alloc (.cells #[.int .i64 f0, .int .i64 f1, .slice A2 xs.length c2, .slice A3 ps.length c3, .slice A4 ss.length c4, .int .i64 f5] 30)).alloc (.cells #[.int .i64 num, .int .i64 den] 38)).alloc (.cells #[.int .i64 0, .int .i64 0, .slice none 0 0, .slice none 0 0, .slice none 0 0, .int .i64 0] 30)).heap[w.heap.size + 1 + 1]? = some (.cells #[.int .i64 0, .int .i64 0, .slice none 0 0, .slice none 0 0, .slice none 0 0, .int .i64 0] 30) := by repeat (first | (refine blk_new' ?_ _; (simp; done)) | refine blk_alloc ?_ _)
  generalize (((w.alloc (.cells #[.int .i64 f0, .int .i64 f1, .slice A2 xs.length c2, .slice A3 ps.length c3, .slice A4 ss.length c4, .int .i64 f5] 30)).alloc (.cells #[.int .i64 num, .int .i64 den] 38)).alloc (.cells #[.int .i64 0, .int .i64 0, .slice none 0 0, .slice none 0 0, .slice none 0 0, .int .i64 0] 30)) = X0 at *
  refine (HV.out _ hB0).mono ?_
  rintro e w1 ⟨rfl, hb1⟩
  replace hs := pw_blk_below hs hb1
  replace ht := pw_blk_below ht hb1
  replace hr := pw_blk_below hr hb1
  replace hB0 := below_trans' hB0 hb1
  clear hb1 HV
  have hcs : ∀ k v, #[Value.int .i64 f0, .int .i64 f1, .slice A2 xs.length c2, .slice A3 ps.length c3, .slice A4 ss.length c4, .int .i64 f5][k]? = some v → w1.cell? ⟨w.heap.size, k, none⟩ = some v := fun k v h => (blk_cell hs k).trans h
  have hct0 : w1.cell? ⟨w.heap.size + 1, 0, none⟩ = some (.int .i64 num) := blk_cell ht 0
  have hct1 : w1.cell? ⟨w.heap.size + 1, 1, none⟩ = some (.int .i64 den) := blk_cell ht 1
  have HB := Aside0.mk hB0
  have HS := Aside0.mk hs
  have HT := Aside0.mk ht
  have HR := Aside0.mk hr
  clear hB0 hs ht hr hcs
  go_wp2_with fail
  refine (HN.out _).mono ?_
  rintro e w2 ⟨rfl, hb2⟩
  have hs2 := pw_blk_below HS.out hb2
  have ht2 := pw_blk_below HT.out hb2
  have hr2 := pw_blk_below HR.out hb2
  have hB2 := below_trans' HB.out hb2
  have hcs0 : w2.cell? ⟨w.heap.size, 0, none⟩ = some (.int .i64 f0) := blk_cell hs2 0
  have hcs1 : w2.cell? ⟨w.heap.size, 1, none⟩ = some (.int .i64 f1) := blk_cell hs2 1
  have hcs2 : w2.cell? ⟨w.heap.size, 2, none⟩ = some (.slice A2 xs.length c2) := blk_cell hs2 2
  have hcs3 : w2.cell? ⟨w.heap.size, 3, none⟩ = some (.slice A3 ps.length c3) := blk_cell hs2 3
  have hcs4 : w2.cell? ⟨w.heap.size, 4, none⟩ = some (.slice A4 ss.length c4) := blk_cell hs2 4
  have hcs5 : w2.cell? ⟨w.heap.size, 5, none⟩ = some (.int .i64 f5) := blk_cell hs2 5
  have hct20 : w2.cell? ⟨w.heap.size + 1, 0, none⟩ = some (.int .i64 num) := blk_cell ht2 0
  have hct21 : w2.cell? ⟨w.heap.size + 1, 1, none⟩ = some (.int .i64 den) := blk_cell ht2 1
  have HB2 := Aside0.mk hB2
  have HR2 := Aside0.mk hr2
  clear HB HS HT HR hb2 hs2 ht2 hr2 hB2 hct0 hct1 HN
  go_wp2_with fail
  refine (HP.out _ HB2.out).mono ?_
  rintro e w3 ⟨⟨vs, vg, rfl, hos, hog⟩, hb3⟩
  obtain ⟨As, cs, rfl⟩ := own_slice hos
  obtain ⟨Ag, cg, rfl⟩ := own_slice hog
  replace hos := own_weak hos HB2.out.size
  replace hog := own_weak hog HB2.out.size
  have hq0 := pw_blk_below HR2.out hb3
  have hbb := below_trans' HB2.out hb3
  clear HP hcs0 hcs1 hcs2 hcs3 hcs4 hcs5 hct20 hct21
  have hfz0 : w3.frozen? ⟨w.heap.size + 1 + 1, 0, none⟩ = false := blk_frozen hq0 0
  have hcl0 : w3.cell? ⟨w.heap.size + 1 + 1, 0, none⟩ = some (.int .i64 0) := blk_cell hq0 0
  have hq1 := blk_put hq0 0 (.int .i64 f0) rfl
  have hos1 := own_far hos (a := ⟨w.heap.size + 1 + 1, 0, none⟩) (own_ne hos hq0 (by decide)) (.int .i64 f0)
  have hog1 := own_far hog (a := ⟨w.heap.size + 1 + 1, 0, none⟩) (own_ne hog hq0 (by decide)) (.int .i64 f0)
  have hbb1 := Below.setCell hbb (p := ⟨w.heap.size + 1 + 1, 0, none⟩) (by dsimp only; omega) (.int .i64 f0)
  have hfz1 : (w3.setCell ⟨w.heap.size + 1 + 1, 0, none⟩ (.int .i64 f0)).frozen? ⟨w.heap.size + 1 + 1, 1, none⟩ = false := blk_frozen hq1 1
  have hcl1 : (w3.setCell ⟨w.heap.size + 1 + 1, 0, none⟩ (.int .i64 f0)).cell? ⟨w.heap.size + 1 + 1, 1, none⟩ = some (.int .i64 0) := blk_cell hq1 1
  have hq2 := blk_put hq1 1 (.int .i64 f1) rfl
  have hos2 := own_far hos1 (a := ⟨w.heap.size + 1 + 1, 1, none⟩) (own_ne hos1 hq1 (by decide)) (.int .i64 f1)
  have hog2 := own_far hog1 (a := ⟨w.heap.size + 1 + 1, 1, none⟩) (own_ne hog1 hq1 (by decide)) (.int .i64 f1)
  have hbb2 := Below.setCell hbb1 (p := ⟨w.heap.size + 1 + 1, 1, none⟩) (by dsimp only; omega) (.int .i64 f1)
  have hfz2 : ((w3.setCell ⟨w.heap.size + 1 + 1, 0, none⟩ (.int .i64 f0)).setCell ⟨w.heap.size + 1 + 1, 1, none⟩ (.int .i64 f1)).frozen? ⟨w.heap.size + 1 + 1, 2, none⟩ = false := blk_frozen hq2 2
  have hcl2 : ((w3.setCell ⟨w.heap.size + 1 + 1, 0, none⟩ (.int .i64 f0)).setCell ⟨w.heap.size + 1 + 1, 1, none⟩ (.int .i64 f1)).cell? ⟨w.heap.size + 1 + 1, 2, none⟩ = some (.slice none 0 0) := blk_cell hq2 2
  have hq3 := blk_put hq2 2 (.slice As ys.length cs) rfl
  have hos3 := own_far hos2 (a := ⟨w.heap.size + 1 + 1, 2, none⟩) (own_ne hos2 hq2 (by decide)) (.slice As ys.length cs)
  have hog3 := own_far hog2 (a := ⟨w.heap.size + 1 + 1, 2, none⟩) (own_ne hog2 hq2 (by decide)) (.slice As ys.length cs)
  have hbb3 := Below.setCell hbb2 (p := ⟨w.heap.size + 1 + 1, 2, none⟩) (by dsimp only; omega) (.slice As ys.length cs)
  have hfz3 : (((w3.setCell ⟨w.heap.size + 1 + 1, 0, none⟩ (.int .i64 f0)).setCell ⟨w.heap.size + 1 + 1, 1, none⟩ (.int .i64 f1)).setCell ⟨w.heap.size + 1 + 1, 2, none⟩ (.slice As ys.length cs)).frozen? ⟨w.heap.size + 1 + 1, 3, none⟩ = false := blk_frozen hq3 3
  have hcl3 : (((w3.setCell ⟨w.heap.size + 1 + 1, 0, none⟩ (.int .i64 f0)).setCell ⟨w.heap.size + 1 + 1, 1, none⟩ (.int .i64 f1)).setCell ⟨w.heap.size + 1 + 1, 2, none⟩ (.slice As ys.length cs)).cell? ⟨w.heap.size + 1 + 1, 3, none⟩ = some (.slice none 0 0) := blk_cell hq3 3
  have hq4 := blk_put hq3 3 (.slice none 0 0) rfl
  have hos4 := own_far hos3 (a := ⟨w.heap.size + 1 + 1, 3, none⟩) (own_ne hos3 hq3 (by decide)) (.slice none 0 0)
  have hog4 := own_far hog3 (a := ⟨w.heap.size + 1 + 1, 3, none⟩) (own_ne hog3 hq3 (by decide)) (.slice none 0 0)
  have hbb4 := Below.setCell hbb3 (p := ⟨w.heap.size + 1 + 1, 3, none⟩) (by dsimp only; omega) (.slice none 0 0)
  have hfz4 : ((((w3.setCell ⟨w.heap.size + 1 + 1, 0, none⟩ (.int .i64 f0)).setCell ⟨w.heap.size + 1 + 1, 1, none⟩ (.int .i64 f1)).setCell ⟨w.heap.size + 1 + 1, 2, none⟩ (.slice As ys.length cs)).setCell ⟨w.heap.size + 1 + 1, 3, none⟩ (.slice none 0 0)).frozen? ⟨w.heap.size + 1 + 1, 4, none⟩ = false := blk_frozen hq4 4
  have hcl4 : ((((w3.setCell ⟨w.heap.size + 1 + 1, 0, none⟩ (.int .i64 f0)).setCell ⟨w.heap.size + 1 + 1, 1, none⟩ (.int .i64 f1)).setCell ⟨w.heap.size + 1 + 1, 2, none⟩ (.slice As ys.length cs)).setCell ⟨w.heap.size + 1 + 1, 3, none⟩ (.slice none 0 0)).cell? ⟨w.heap.size + 1 + 1, 4, none⟩ = some (.slice none 0 0) := blk_cell hq4 4
  have hq5 := blk_put hq4 4 (.slice Ag ts.length cg) rfl
  have hos5 := own_far hos4 (a := ⟨w.heap.size + 1 + 1, 4, none⟩) (own_ne hos4 hq4 (by decide)) (.slice Ag ts.length cg)
  have hog5 := own_far hog4 (a := ⟨w.heap.size + 1 + 1, 4, none⟩) (own_ne hog4 hq4 (by decide)) (.slice Ag ts.length cg)
  have hbb5 := Below.setCell hbb4 (p := ⟨w.heap.size + 1 + 1, 4, none⟩) (by dsimp only; omega) (.slice Ag ts.length cg)
  have hfz5 : (((((w3.setCell ⟨w.heap.size + 1 + 1, 0, none⟩ (.int .i64 f0)).setCell ⟨w.heap.size + 1 + 1, 1, none⟩ (.int .i64 f1)).setCell ⟨w.heap.size + 1 + 1, 2, none⟩ (.slice As ys.length cs)).setCell ⟨w.heap.size + 1 + 1, 3, none⟩ (.slice none 0 0)).setCell ⟨w.heap.size + 1 + 1, 4, none⟩ (.slice Ag ts.length cg)).frozen? ⟨w.heap.size + 1 + 1, 5, none⟩ = false := blk_frozen hq5 5
  have hcl5 : (((((w3.setCell ⟨w.heap.size + 1 + 1, 0, none⟩ (.int .i64 f0)).setCell ⟨w.heap.size + 1 + 1, 1, none⟩ (.int .i64 f1)).setCell ⟨w.heap.size + 1 + 1, 2, none⟩ (.slice As ys.length cs)).setCell ⟨w.heap.size + 1 + 1, 3, none⟩ (.slice none 0 0)).setCell ⟨w.heap.size + 1 + 1, 4, none⟩ (.slice Ag ts.length cg)).cell? ⟨w.heap.size + 1 + 1, 5, none⟩ = some (.int .i64 0) := blk_cell hq5 5
  have hq6 := blk_put hq5 5 (.int .i64 f5) rfl
  have hos6 := own_far hos5 (a := ⟨w.heap.size + 1 + 1, 5, none⟩) (own_ne hos5 hq5 (by decide)) (.int .i64 f5)
  have hog6 := own_far hog5 (a := ⟨w.heap.size + 1 + 1, 5, none⟩) (own_ne hog5 hq5 (by decide)) (.int .i64 f5)
  have hbb6 := Below.setCell hbb5 (p := ⟨w.heap.size + 1 + 1, 5, none⟩) (by dsimp only; omega) (.int .i64 f5)

  have HOS := Aside0.mk hos6
  have HOG := Aside0.mk hog6
  have HBB := Aside0.mk hbb6
  have HQ6 := Aside0.mk hq6
  clear hos hos1 hos2 hos3 hos4 hos5 hos6 hog hog1 hog2 hog3 hog4 hog5 hog6 hbb hbb1 hbb2 hbb3 hbb4 hbb5 hbb6 hq0 hq1 hq2 hq3 hq4 hq5 hq6 hb3 HB2 HR2
  go_wp2_with fail
  refine bodyPost_ret (results_cell_row_tmp (p := 4) (u := 5) (ty := 30) rfl _ _ (w.heap.size + 1 + 1) 30 _ (0, 0) _ rfl HQ6.out Try.underlying30 rfl (by kernel_rfl)) rfl ?_
  exact ⟨⟨_, _, _, _, rfl, HOS.out, HOG.out⟩, HBB.out⟩
end Go.Proofs.Ytoodagohkepcpaa
