/- When jobs are done. -/
import Derived.Test.YtoodagohkepcpaaA9
import Derived.Test.YtoodagohkepcpaaA7
namespace Go.Proofs.Ytoodagohkepcpaa
open Go.RowKit Go.Shelf Go.Proofs.YtoodagohkepcpaaW.PrintWords

def okJob (x : S82) : Prop := (0 ≤ x.f0 ∧ x.f0 ≤ 1073741824) ∧ (0 ≤ x.f1 ∧ x.f1 ≤ 1099511627776)

set_option maxRecDepth 100000 in
set_option maxHeartbeats 1000000 in
theorem timed1_ok (a b : Int) (ha : 0 ≤ a ∧ a ≤ 1073741824) (hb : 0 ≤ b ∧ b ≤ 1099511627776) (w : World) : Calls Try.prog 69 #[.agg #[.int .i64 a, .int .i64 b]] w fun e w' => e = .returned (.bool false) ∧ Below w.heap.size w w' := by
  have W1 := within_yes a 0 1073741824 ha
  have W2 := within_yes b 0 1099511627776 hb
  clear ha hb
  go_enter Try.func69, Try.ntmps69
  go_wp2_with fail
  refine (W1 _).mono ?_
  rintro e w' ⟨rfl, q, rfl⟩
  go_wp2_with fail
  refine (W2 _).mono ?_
  rintro e w' ⟨rfl, q, rfl⟩
  go_wp2_with fail
  go_ret
  exact ⟨rfl, by repeat (first | exact Below.refl _ _ | apply below_alloc | apply pw_below_drewN)⟩

set_option maxRecDepth 100000 in
set_option maxHeartbeats 2000000 in
theorem IndexFunc_job (A : Option Addr) (c : Nat) (xs : List S82) (w : World) (hr : Kd.C k82 w A xs.length xs) (hp : ∀ i : Nat, i < xs.length → okJob (rd_T82 xs i)) :
    Calls Try.prog 77 #[.slice A xs.length c, .func (.func 69) #[] #[]] w fun e w' => e = .returned (.int .i64 (-1)) ∧ Below w.heap.size w w' := by
  have hn : xs.length ≤ 9223372036854775807 := hr.2.1
  have HR := Aside0.mk hr
  have HP := Aside0.mk hp
  have eg : ∀ args w, (callFunc 69 args).run Try.prog w = .ok (.enter 69 args) w := enters_of Try.func69 (by kernel_rfl) rfl
  clear hr hp
  go_enter Try.func77, Try.ntmps77
  go_wp2
  go_loopg [5, 8] xs.length (fun gg _ s8 wr => ∃ kk : Nat, kk ≤ xs.length ∧ xs.length - kk ≤ gg ∧ s8 = .int .i64 kk ∧ Aside0 (Below w.heap.size w wr))
  case atStart => exact ⟨0, Nat.zero_le _, by omega, rfl, ⟨Below.refl _ _⟩⟩
  case round =>
    obtain ⟨kk, hkk, hg, rfl, HB⟩ := hrel
    by_cases hlt : kk < xs.length
    · obtain ⟨ad, rfl, hc0, hc1⟩ := at_T82 HR.out (kk : Int) (by omega) (by omega)
      rw [Int.toNat_natCast] at hc0 hc1
      replace hc0 := pw_cell_below HB.out hc0
      replace hc1 := pw_cell_below HB.out hc1
      have hltz : (kk : Int) < (xs.length : Int) := by omega
      obtain ⟨h1, h2⟩ := HP.out kk hlt
      generalize rd_T82 xs (kk : Int) = y at *
      have hcall := timed1_ok y.f0 y.f1 h1 h2 wr
      clear h1 h2
      go_wp2_with (go_at_fn 69; refine hcall.mono ?_; rintro e w' ⟨rfl, hb⟩)
      go_roundg (xs.length - (kk + 1))
      case measure => omega
      case rel => exact ⟨kk + 1, by omega, by omega, by go_num, ⟨below_then HB.out HB.out.size hb⟩⟩
    · have hltz : ¬ (kk : Int) < (xs.length : Int) := by omega
      obtain rfl : kk = xs.length := by omega
      go_wp2
      go_ret
      exact ⟨rfl, HB.out⟩

set_option maxHeartbeats 1000000 in
theorem ContainsFunc_job (A : Option Addr) (c : Nat) (xs : List S82) (w : World) (hr : Kd.C k82 w A xs.length xs) (hp : ∀ i : Nat, i < xs.length → okJob (rd_T82 xs i)) :
    Calls Try.prog 68 #[.slice A xs.length c, .func (.func 69) #[] #[]] w fun e w' => e = .returned (.bool false) ∧ Below w.heap.size w w' := by
  have HR := IndexFunc_job A c xs w hr hp
  clear hr hp
  go_enter Try.func68, Try.ntmps68
  go_wp2_with (go_at_call 77; refine HR.mono ?_; rintro e w' ⟨rfl, hb⟩)
  go_ret
  exact ⟨rfl, hb⟩

set_option maxRecDepth 100000 in
set_option maxHeartbeats 1000000 in
theorem timed_ok (v : Int) (A : Option Addr) (c : Nat) (xs : List S82) (w : World) (hr : Kd.C k82 w A xs.length xs) (hp : ∀ i : Nat, i < xs.length → okJob (rd_T82 xs i)) (hv : 1 ≤ v ∧ v ≤ 1073741824) (hl : xs.length ≤ 1000) :
    Calls Try.prog 49 #[.int .i64 v, .slice A xs.length c] w fun e w' => e = .returned (.bool true) ∧ Below w.heap.size w w' := by
  have HC := Aside0.mk (fun (W : World) (hb : Below w.heap.size w W) => ContainsFunc_job A c xs W (Kd.C_below hr hb) hp)
  have W1 := within_yes v 1 1073741824 hv
  have hd : decide ((xs.length : Int) ≤ 1000) = true := by simp; omega
  clear hr hp hv
  go_enter Try.func49, Try.ntmps49
  go_wp2_with fail
  refine (W1 _).mono ?_
  rintro e w' ⟨rfl, q, rfl⟩
  go_wp2_with fail
  refine (HC.out _ (pw_below_drewN (Below.refl _ _) q)).mono ?_
  rintro e w' ⟨rfl, hb⟩
  go_wp2_with fail
  go_ret
  exact ⟨rfl, (pw_below_drewN (Below.refl _ _) q).trans hb⟩

/-! ### when each is done -/
def workF (xs : List S82) (j : Nat) : Int := ((xs.take j).map (fun x => x.f0)).foldr (· + ·) 0
theorem workF_succ {xs : List S82} {j : Nat} (h : j < xs.length) : workF xs (j + 1) = workF xs j + (rd_T82 xs (j : Int)).f0 := by
  have e : rd_T82 xs (j : Int) = xs[j] := by simp [rd_T82, List.getD_eq_getElem?_getD, h]
  unfold workF
  rw [List.take_add_one, List.getElem?_eq_getElem h, e]
  have : ∀ (l : List Int) (a : Int), (l ++ [a]).foldr (· + ·) 0 = l.foldr (· + ·) 0 + a := by
    intro l a
    induction l with
    | nil => simp
    | cons x l ih => simp only [List.cons_append, List.foldr_cons, ih]; omega
  simp only [Option.toList_some, List.map_append, List.map_cons, List.map_nil]
  exact this _ _
def readyF (v : Int) (xs : List S82) (j : Nat) : List Int := (List.range j).map (fun i => (workF xs (i + 1) + v - 1) / v)
theorem readyF_succ (v : Int) (xs : List S82) (j : Nat) : readyF v xs (j + 1) = readyF v xs j ++ [(workF xs (j + 1) + v - 1) / v] := by simp [readyF, List.range_succ]
theorem workF_bound {xs : List S82} (hp : ∀ i : Nat, i < xs.length → okJob (rd_T82 xs i)) : ∀ j : Nat, j ≤ xs.length → 0 ≤ workF xs j ∧ workF xs j ≤ j * 1073741824 := by
  intro j
  induction j with
  | zero => intro _; simp [workF]
  | succ j ih =>
    intro hj
    have h1 := ih (by omega)
    have h2 := (hp j (by omega)).1
    rw [workF_succ (by omega)]
    push_cast
    omega

set_option maxRecDepth 100000 in
set_option maxHeartbeats 4000000 in
theorem ready_ok (v : Int) (A : Option Addr) (c : Nat) (xs : List S82) (w : World) (hr : Kd.C k82 w A xs.length xs) (hp : ∀ i : Nat, i < xs.length → okJob (rd_T82 xs i)) (hv : 1 ≤ v ∧ v ≤ 1073741824) (hl : xs.length ≤ 1000) :
    Calls Try.prog 51 #[.int .i64 v, .slice A xs.length c] w fun e w' => ∃ u, e = .returned u ∧ w'.ownsRow w.heap.size 3 1 u xs.length (Flat eI (readyF v xs xs.length)) ∧ Below w.heap.size w w' := by
  obtain ⟨hv1, hv2⟩ := hv
  have HR := Aside0.mk hr
  have HP := Aside0.mk hp
  clear hr hp
  go_enter Try.func51, Try.ntmps51
  go_wp2
  go_loopg [5, 6, 11] xs.length (fun gg s5 s6 s11 wr => ∃ kk : Nat, kk ≤ xs.length ∧ xs.length - kk ≤ gg ∧ s11 = .int .i64 kk ∧ s6 = .int .i64 (workF xs kk) ∧ Aside0 (wr.ownsRow w.heap.size 3 1 s5 kk (Flat eI (readyF v xs kk))) ∧ Aside0 (Below w.heap.size w wr))
  case atStart => exact ⟨0, Nat.zero_le _, by omega, rfl, rfl, ⟨own_nil _ _ _ _⟩, ⟨Below.refl _ _⟩⟩
  case round =>
    obtain ⟨kk, hkk, hg, rfl, rfl, HO, HB⟩ := hrel
    have hw := workF_bound HP.out kk hkk
    by_cases hlt : kk < xs.length
    · obtain ⟨ad, rfl, hc0, hc1⟩ := at_T82 HR.out (kk : Int) (by omega) (by omega)
      rw [Int.toNat_natCast] at hc0 hc1
      replace hc0 := pw_cell_below HB.out hc0
      replace hc1 := pw_cell_below HB.out hc1
      have hltz : (kk : Int) < (xs.length : Int) := by omega
      obtain ⟨h1, h2⟩ := HP.out kk hlt
      have hs := workF_succ hlt
      have hw1 := workF_bound HP.out (kk + 1) (by omega)
      have hq : ((workF xs (kk + 1)) + v - 1).tdiv v = (workF xs (kk + 1) + v - 1) / v := Int.tdiv_eq_ediv_of_nonneg (by omega)
      have hrs := readyF_succ v xs kk
      have hv0 : v ≠ 0 := by omega
      have hd0 : 0 ≤ (workF xs (kk + 1) + v - 1) / v := Int.ediv_nonneg (by omega) (by omega)
      have hd1 : (workF xs (kk + 1) + v - 1) / v ≤ workF xs (kk + 1) + v - 1 := Int.ediv_le_self _ (by omega)
      have HS := Aside0.mk hrs
      have HW := Aside0.mk hs
      rw [hs] at hq hd0 hd1 hw1
      clear hrs hs h2
      generalize rd_T82 xs (kk : Int) = y at *
      generalize hwk : workF xs kk = wk at *
      have hw64 : IntKind.i64.wrap (wk + y.f0) = wk + y.f0 := IntWalk.i64_in _ (by omega)
      obtain ⟨dv, hdv⟩ : ∃ dv, (wk + y.f0 + v - 1) / v = dv := ⟨_, rfl⟩
      rw [hdv] at hq hd0 hd1
      have HDV := Aside0.mk hdv
      clear hdv hwk
      go_wp2_with (at_builtin; refine append_list rfl (.tmp 19) (.tmp 26) 22 3 (.int .i64 0) 1 8 rfl Try.underlying22 info3 rfl (by decide) (by decide) w.heap.size _ kk (Flat eI (readyF v xs kk)) (some ⟨_, 0, none⟩) 1 1 (Flat eI [dv]) rfl rfl (pw_own_below HO.out ?ownb) rfl (Cells.new' ?newb _ #[.int .i64 dv] 3 1) (Flat_mem eI_one) ?bytes ?base ?_)
      try (case newb => first | exact rfl | (simp; done))
      case ownb => exact below_alloc (below_alloc (Below.refl _ _) _) _
      case bytes => omega
      case base => have := HB.out.size; (try simp); omega
      intro u1 w1 hA
      have HA : Aside0 (w1.ownsRow w.heap.size 3 1 u1 (kk + 1) (Flat eI (readyF v xs (kk + 1)))) := ⟨by have := hA.own; rw [← Flat_append] at this; rwa [HS.out, HW.out, HDV.out]⟩
      have HB1 : Aside0 (Below w.heap.size w w1) := ⟨(below_alloc (below_alloc HB.out _) _).grown hA.grown (below_alloc (below_alloc HB.out _) _).size (own_base HO.out)⟩
      clear hA HO HB
      go_wp2
      go_roundg (xs.length - (kk + 1))
      case measure => omega
      case rel => exact ⟨kk + 1, by omega, by omega, by go_num, by rw [HW.out], HA, HB1⟩
    · have hltz : ¬ (kk : Int) < (xs.length : Int) := by omega
      obtain rfl : kk = xs.length := by omega
      go_wp2
      go_ret
      exact ⟨_, rfl, HO.out, HB.out⟩

set_option maxRecDepth 100000 in
set_option maxHeartbeats 1000000 in
theorem Ready_ok (v : Int) (A : Option Addr) (c : Nat) (xs : List S82) (w : World) (hr : Kd.C k82 w A xs.length xs) (hp : ∀ i : Nat, i < xs.length → okJob (rd_T82 xs i)) (hv : 1 ≤ v ∧ v ≤ 1073741824) (hl : xs.length ≤ 1000) :
    Calls Try.prog 26 #[.int .i64 v, .slice A xs.length c] w fun e w' => ∃ u, e = .returned (.tuple #[u, .int .i64 0]) ∧ w'.ownsRow w.heap.size 3 1 u xs.length (Flat eI (readyF v xs xs.length)) ∧ Below w.heap.size w w' := by
  have H1 := Aside0.mk (timed_ok v A c xs w hr hp hv hl)
  have H2 := Aside0.mk (fun (W : World) (hb : Below w.heap.size w W) => ready_ok v A c xs W (Kd.C_below hr hb) hp hv hl)
  clear hr hp hv hl
  go_enter Try.func26, Try.ntmps26
  go_wp2_with fail
  refine H1.out.mono ?_
  rintro e w1 ⟨rfl, hb1⟩
  go_wp2_with fail
  refine (H2.out _ hb1).mono ?_
  rintro e w2 ⟨u, rfl, ho, hb2⟩
  go_wp2_with fail
  refine bodyPost_ret (results_tmp2 rfl _ _ _) rfl ?_
  exact ⟨u, rfl, own_weak ho hb1.size, below_trans' hb1 hb2⟩
end Go.Proofs.Ytoodagohkepcpaa
