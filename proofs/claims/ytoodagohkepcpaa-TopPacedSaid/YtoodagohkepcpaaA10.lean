/- A stretched wave: the common part. -/
import Derived.Test.YtoodagohkepcpaaB1
namespace Go.Proofs.Ytoodagohkepcpaa
open Go.RowKit Go.Shelf Go.Proofs.YtoodagohkepcpaaW.PrintWords
attribute [local go_sem] Oper.semAt_some

theorem periods_any (x0 x1 : Value) (w : World) :
    Calls Try.prog 56 #[.agg #[x0, x1]] w fun e w' => e = .returned (.func (.func 72) #[] #[.pointer (some ⟨w.heap.size, 0, none⟩)]) ∧ w' = w.alloc (.cells #[x0, x1] 24) := by
  go_enter Try.func56, Try.ntmps56
  go_wp2
  go_ret
  exact ⟨rfl, rfl⟩

set_option maxRecDepth 100000 in
theorem periods_stops (n : Nat) (hn : 1 ≤ n) (Bm : Nat) (kp : Nat → Prop) (A0 A1 : Option Addr) (c0 c1 : Nat) (xs ms : List Int) (hc : xs.length ≤ c0) (hk : okMarks xs.length ms) (hbm : kp Bm) (w : World)
    (h24 : w.heap[Bm]? = some (.cells #[.slice A0 xs.length c0, .slice A1 ms.length c1] 24))
    (h1 : Kd.C (Kd.int .i64) w A1 ms.length ms) (h1b : ∀ ad, A1 = some ad → 0 < ms.length → kp ad.block) :
    SeqStopsK Fence.wide n Try.prog 72 #[.pointer (some ⟨Bm, 0, none⟩)] (encPs A0) (Keeps kp) (fun ys => ys = pairs ms) (fun _ => True) (pairs ms).length w := by
  intro l J Jx W hW hJ hJx hY h0
  have hb24 : W.heap[Bm]? = _ := (hW.block Bm (blk_lt h24)).trans h24
  have hJd : ∀ s W m, J s W → J s (W.drewN m) := fun s W m h => hJ s W _ none h ⟨rfl, rfl, rfl, Nat.le_refl _, fun _ _ _ => rfl⟩ (fun r e => by cases e)
  refine (periods1_in n hn l Bm kp A0 A1 c0 c1 xs ms hc hk hbm J (fun t W => ∃ s : List (Int × Int), Jx s W) hJd ?_ W hb24 (Kd.C_below h1 hW) h1b h0).mono ?_
  · intro pre x W1 hj hpre
    have hlen : pre.length < (pairs ms).length := by
      have := hpre.length_le
      rw [List.length_append, List.length_singleton] at this
      omega
    obtain ⟨fn, tmps, assign, body, hy, hR⟩ := hY pre x W1 hj hlen
    refine ⟨fn, tmps, assign, body, hy, hR.mono ?_⟩
    rintro e W' (⟨he, hj', hk⟩ | ⟨he, hj'⟩)
    · exact .inl ⟨he, hj', hk⟩
    · exact .inr ⟨he, _, hj'⟩
  · rintro e W' ⟨hv, ⟨ys, rfl, hj⟩ | ⟨pre, _, s, hj⟩⟩
    · exact ⟨hv, .inl ⟨_, rfl, hj⟩⟩
    · exact ⟨hv, .inr ⟨s, trivial, hj⟩⟩

/-- What lies in memory while a stretched wave is laid. -/
structure DInv (wr : World) (Bo : Nat) (ss mks : List Int) (W : World) : Prop where
  below : Below wr.heap.size wr W
  row : ∃ vs vm, W.heap[Bo]? = some (.cells #[vs, vm] 24) ∧ W.ownsRow wr.heap.size 3 1 vs ss.length (Flat eI ss) ∧ W.ownsRow wr.heap.size 3 1 vm mks.length (Flat eI mks) ∧ (vs.ownBlock = none ∨ vs.ownBlock ≠ vm.ownBlock)
theorem own_ne_sym {a b : Option Nat} (h : a = none ∨ a ≠ b) : b = none ∨ b ≠ a := by
  cases b with
  | none => exact .inl rfl
  | some b => exact .inr (fun e => by rcases h with h | h <;> simp_all)
theorem own_ne_app {X w1 : World} {base : Nat} {e e' : TypeId} {s s' n n' : Nat} {v u v' : Value} {xs xs' : List Value} {k : Nat} (h : v.ownBlock = none ∨ v.ownBlock ≠ v'.ownBlock) (hA : Appended X w1 base e s v u k xs) (hv' : X.ownsRow base e' s' v' n' xs') : u.ownBlock = none ∨ u.ownBlock ≠ v'.ownBlock := by
  rcases hA.place with hp | hp
  · rw [hp]; exact h
  · rw [hp]
    refine .inr fun e => ?_
    have := own_lt hv' _ e.symm
    omega
theorem DInv.samples {wr X w1 : World} {Bo : Nat} {ss mks m : List Int} {vs vm u : Value} {k : Nat} (hb : Below wr.heap.size wr X) (hB : wr.heap.size ≤ Bo) (ho : X.heap[Bo]? = some (.cells #[vs, vm] 24))
    (hs : X.ownsRow wr.heap.size 3 1 vs ss.length (Flat eI ss)) (hm : X.ownsRow wr.heap.size 3 1 vm mks.length (Flat eI mks)) (hne : vs.ownBlock = none ∨ vs.ownBlock ≠ vm.ownBlock)
    (hA : Appended X w1 wr.heap.size 3 1 vs u k (Flat eI ss ++ Flat eI m)) (hk : k = (ss ++ m).length) : DInv wr Bo (ss ++ m) mks (w1.setCell ⟨Bo, 0, none⟩ u) := by
  subst hk
  have ho1 := blk_grown ho hA.grown (own_ne hs ho (by decide))
  have hm1 := hm.kept hA.grown (own_ne_sym hne)
  refine ⟨(hb.grown hA.grown hb.size (own_base hs)).setCell hB _, u, vm, blk_put ho1 0 u rfl, ?_, own_far hm1 (own_ne hm1 ho1 (by decide)) u, own_ne_app (n := 0) hne hA hm⟩
  have := own_far hA.own (a := ⟨Bo, 0, none⟩) (own_ne hA.own ho1 (by decide)) u
  rwa [← Flat_append] at this
theorem DInv.marks {wr X w1 : World} {Bo : Nat} {ss mks m : List Int} {vs vm u : Value} {k : Nat} (hb : Below wr.heap.size wr X) (hB : wr.heap.size ≤ Bo) (ho : X.heap[Bo]? = some (.cells #[vs, vm] 24))
    (hs : X.ownsRow wr.heap.size 3 1 vs ss.length (Flat eI ss)) (hm : X.ownsRow wr.heap.size 3 1 vm mks.length (Flat eI mks)) (hne : vs.ownBlock = none ∨ vs.ownBlock ≠ vm.ownBlock)
    (hA : Appended X w1 wr.heap.size 3 1 vm u k (Flat eI mks ++ Flat eI m)) (hk : k = (mks ++ m).length) : DInv wr Bo ss (mks ++ m) (w1.setCell ⟨Bo, 1, none⟩ u) := by
  subst hk
  have ho1 := blk_grown ho hA.grown (own_ne hm ho (by decide))
  have hs1 := hs.kept hA.grown hne
  refine ⟨(hb.grown hA.grown hb.size (own_base hm)).setCell hB _, vs, u, blk_put ho1 1 u rfl, own_far hs1 (own_ne hs1 ho1 (by decide)) u, ?_, own_ne_sym (own_ne_app (n := 0) (own_ne_sym hne) hA hs)⟩
  have := own_far hA.own (a := ⟨Bo, 1, none⟩) (own_ne hA.own ho1 (by decide)) u
  rwa [← Flat_append] at this
/-- What lies in memory while the periods are gathered. -/
structure CInv (w2 : World) (A0 : Option Addr) (pre : List (Int × Int)) (W : World) : Prop where
  below : Below w2.heap.size w2 W
  size : w2.heap.size + 2 ≤ W.heap.size
  row : ∃ v, W.heap[w2.heap.size]? = some (.cells #[v] 128) ∧ W.ownsRow (w2.heap.size + 2) 22 1 v pre.length (pre.map (encP A0))
theorem CInv.kept {w2 : World} {A0 : Option Addr} {pre : List (Int × Int)} {W W' : World} {row : Option Nat} (h : CInv w2 A0 pre W) (hg : W.grownBy W' row)
    (hr : ∀ r, row = some r → w2.heap.size ≤ r ∧ ∃ o : Obj, W.heap[r]? = some o ∧ o.isCells = false) : CInv w2 A0 pre W' := by
  have hr' := fun r e => (hr r e).2
  obtain ⟨v, h1, h2⟩ := h.row
  exact ⟨h.below.grown hg h.below.size (fun k e => (hr k e).1), Nat.le_trans h.size hg.size, v, kept_cells h1 hg hr', kept_own h2 hg hr'⟩

set_option maxRecDepth 100000 in
set_option maxHeartbeats 8000000 in
theorem changed_in (n : Nat) (hn : 5 ≤ n) (k : Nat) (Bh : Nat) (A0 A1 : Option Addr) (c0 c1 : Nat) (xs ms : List Int) (w : World)
    (h0 : Kd.C (Kd.int .i64) w A0 xs.length xs) (hc0 : xs.length ≤ c0) (h1 : Kd.C (Kd.int .i64) w A1 ms.length ms) (hx : okWave xs) (hk : okMarks xs.length ms) (hml : ms.length ≤ 1000)
    (hk1 : 1 ≤ k ∧ k ≤ 8) (hh : w.heap[Bh]? = some (.cells #[.func (.func 31) #[] #[]] 94)) (htot : 8 * xs.length ≤ 100000) :
    CallsIn Fence.wide n Try.prog 30 #[.agg #[.slice A0 xs.length c0, .slice A1 ms.length c1], .agg #[.int .i64 k, .int .i64 1], .slice (some ⟨Bh, 0, none⟩) 1 1] w
      fun e w' => (∃ As cs Ag cg, e = .returned (.tuple #[.agg #[.slice As (sampS k xs ms (totS k ms) ++ tailS xs ms).length cs, .slice Ag (totS k ms + 1) cg], .int .i64 0]) ∧
        w'.ownsRow w.heap.size 3 1 (.slice As (sampS k xs ms (totS k ms) ++ tailS xs ms).length cs) (sampS k xs ms (totS k ms) ++ tailS xs ms).length (Flat eI (sampS k xs ms (totS k ms) ++ tailS xs ms)) ∧
        w'.ownsRow w.heap.size 3 1 (.slice Ag (totS k ms + 1) cg) (totS k ms + 1) (Flat eI (markS k xs ms (totS k ms)))) ∧ Below w.heap.size w w' := by
  have HM := Aside0.mk (fun (W : World) (hb : Below w.heap.size w W) => marked_ok A0 A1 c0 c1 xs ms W (Kd.C_below h0 hb) (Kd.C_below h1 hb) hx hk)
  have HR := Aside0.mk (fun (W : World) => right_ok k 1 W (by omega) (by omega) (by omega) (by omega))
  have H0 := Aside0.mk h0
  have H1 := Aside0.mk h1
  have HC0 := Aside0.mk hc0
  have HK := Aside0.mk hk
  have HX := Aside0.mk hx
  have HH := Aside0.mk hh
  have hm2 : 2 ≤ ms.length := hk.1
  clear h0 h1 hc0 hk hx hh
  refine callsIn_of_wp_marks Try.func30 rfl trivial ?_ rfl
  simp only [Try.ntmps30, List.size_toArray, List.length_cons, List.length_nil, Nat.reduceAdd, Nat.reduceSub, Array.replicate_succ, Array.replicate_zero, List.push_toArray, List.append_toArray, List.nil_append, List.cons_append]
  gi_wp2_with fail
  refine ⟨trivial, fun h => (by cases h), ?_⟩
  have hB0 : Below w.heap.size w (((w.alloc (.cells #[.slice A0 xs.length c0, .slice A1 ms.length c1] 24)).alloc (.cells #[.int .i64 k, .int .i64 1] 93)).alloc (.cells #[.slice none 0 0, .slice none 0 0] 24)) := by repeat (first | exact Below.refl _ _ | apply below_alloc)
  have hs : (((w.alloc (.cells #[.slice A0 xs.length c0, .slice A1 ms.length c1] 24)).alloc (.cells #[.int .i64 k, .int .i64 1] 93)).alloc (.cells #[.slice none 0 0, .slice none 0 0] 24)).heap[w.heap.size]? = some (.cells #[.slice A0 xs.length c0, .slice A1 ms.length c1] 24) := by repeat (first | (refine blk_new' ?_ _; (simp; done)) | refine blk_alloc ?_ _)
  have ht : (((w.alloc (.cells #[.slice A0 xs.length c0, .slice A1 ms.length c1] 24)).alloc (.cells #[.int .i64 k, .int .i64 1] 93)).alloc (.cells #[.slice none 0 0, .slice none 0 0] 24)).heap[w.heap.size + 1]? = some (.cells #[.int .i64 k, .int .i64 1] 93) := by repeat (first | (refine blk_new' ?_ _; (simp; done)) | refine blk_alloc ?_ _)
  have hr : (((w.alloc (.cells #[.slice A0 xs.length c0, .slice A1 ms.length c1] 24)).alloc (.cells #[.int .i64 k, .int .i64 1] 93)).alloc (.cells #[.slice none 0 0, .slice none 0 0] 24)).heap[w.heap.size + 1 + 1]? = some (.cells #[.slice none 0 0, .slice none 0 0] 24) := by repeat (first | (refine blk_new' ?_ _; (simp; done)) | refine blk_alloc ?_ _)
  have hsz : (((w.alloc (.cells #[.slice A0 xs.length c0, .slice A1 ms.length c1] 24)).alloc (.cells #[.int .i64 k, .int .i64 1] 93)).alloc (.cells #[.slice none 0 0, .slice none 0 0] 24)).heap.size = w.heap.size + 3 := by simp
  generalize (((w.alloc (.cells #[.slice A0 xs.length c0, .slice A1 ms.length c1] 24)).alloc (.cells #[.int .i64 k, .int .i64 1] 93)).alloc (.cells #[.slice none 0 0, .slice none 0 0] 24)) = X0 at *
  refine (callsIn_wide.2 (HM.out _ hB0)).mono ?_
  rintro e w1 ⟨rfl, hb1⟩
  have HB := Aside0.mk (below_trans' hB0 hb1)
  have HS := Aside0.mk (pw_blk_below hs hb1)
  have HT := Aside0.mk (pw_blk_below ht hb1)
  have HRr := Aside0.mk (pw_blk_below hr hb1)
  have HSZ : Aside0 (w.heap.size + 3 ≤ w1.heap.size) := ⟨by have := hb1.size; omega⟩
  have hct0 : w1.cell? ⟨w.heap.size + 1, 0, none⟩ = some (.int .i64 k) := blk_cell HT.out 0
  have hct1 : w1.cell? ⟨w.heap.size + 1, 1, none⟩ = some (.int .i64 1) := blk_cell HT.out 1
  clear hB0 hs ht hr hsz hb1 HM
  gi_wp2_with fail
  refine ⟨trivial, fun h => (by cases h), ?_⟩
  refine (callsIn_wide.2 (HR.out _)).mono ?_
  rintro e w2 ⟨rfl, hb2⟩
  replace HB := Aside0.mk (below_trans' HB.out hb2)
  replace HS := Aside0.mk (pw_blk_below HS.out hb2)
  replace HT := Aside0.mk (pw_blk_below HT.out hb2)
  replace HRr := Aside0.mk (pw_blk_below HRr.out hb2)
  replace HSZ : Aside0 (w.heap.size + 3 ≤ w2.heap.size) := ⟨by have := hb2.size; have := HSZ.out; omega⟩
  have hcs0 : w2.cell? ⟨w.heap.size, 0, none⟩ = some (.slice A0 xs.length c0) := blk_cell HS.out 0
  have hcs1 : w2.cell? ⟨w.heap.size, 1, none⟩ = some (.slice A1 ms.length c1) := blk_cell HS.out 1
  clear hct0 hct1 hb2 HR
  have hb7 : Below w2.heap.size w2 (w2.alloc (.cells #[.slice none 0 0] 128)) := below_alloc (Below.refl _ _) _
  have hcs0a := pw_cell_below hb7 hcs0
  have hcs1a := pw_cell_below hb7 hcs1
  clear hb7
  gi_wp2_with fail
  refine ⟨trivial, fun h => (by cases h), ?_⟩
  refine (callsIn_wide.2 (periods_any _ _ _)).mono ?_
  rintro e w' ⟨rfl, rfl⟩
  gi_wp2_with fail
  obtain ⟨W0, hW0⟩ : ∃ W0, (w2.alloc (.cells #[.slice none 0 0] 128)).alloc (.cells #[.slice A0 xs.length c0, .slice A1 ms.length c1] 24) = W0 := ⟨_, rfl⟩
  have hp0 : W0.heap[w2.heap.size]? = some (.cells #[.slice none 0 0] 128) := by rw [← hW0]; repeat (first | (refine blk_new' ?_ _; (simp; done)) | refine blk_alloc ?_ _)
  have h24 : W0.heap[w2.heap.size + 1]? = some (.cells #[.slice A0 xs.length c0, .slice A1 ms.length c1] 24) := by rw [← hW0]; repeat (first | (refine blk_new' ?_ _; (simp; done)) | refine blk_alloc ?_ _)
  have hB0 : Below w2.heap.size w2 W0 := by rw [← hW0]; repeat (first | exact Below.refl _ _ | apply below_alloc)
  have hsz : W0.heap.size = w2.heap.size + 2 := by rw [← hW0]; simp
  rw [hW0]
  clear hW0 hcs0 hcs1 hcs0a hcs1a
  obtain ⟨kp, hkp⟩ : ∃ kp : Nat → Prop, kp = fun b => b < w2.heap.size ∨ b = w2.heap.size + 1 := ⟨_, rfl⟩
  have hkp1 : kp (w2.heap.size + 1) := by rw [hkp]; exact .inr rfl
  have hkpo : ∀ b, b < w2.heap.size → kp b := fun b hb => by rw [hkp]; exact .inl hb
  have hkpn : ∀ b, kp b → b < w2.heap.size ∨ b = w2.heap.size + 1 := fun b hb => by rw [hkp] at hb; exact hb
  clear hkp
  have hb2 : ∀ ad, A1 = some ad → 0 < ms.length → ad.block < w.heap.size := by
    intro ad e h0
    obtain ⟨ad', e', hc⟩ := Kd.at_int H1.out 0 (by omega) (by omega)
    rw [e] at e'; cases e'
    have := World.block_lt_of_cell? w _ hc
    rwa [show (0 : Int).toNat = 0 from rfl, add_block] at this
  have hseq := periods_stops (n - 1) (by omega) (w2.heap.size + 1) kp A0 A1 c0 c1 xs ms HC0.out HK.out hkp1 W0 h24 (Kd.C_below H1.out (below_trans' HB.out hB0)) (fun ad e h => hkpo _ (by have := hb2 ad e h; have := HSZ.out; omega))
  have hN : (pairs ms).length = ms.length - 1 := by simp [pairs, pairsTo]
  rw [hN] at hseq
  clear hb2 h24
  refine wpIn_rangeFunc_ownG rfl (by omega) (gf := 72) (lb := #[.pointer (some ⟨w2.heap.size + 1, 0, none⟩)]) rfl trivial (enters_of Try.func72 (by kernel_rfl) rfl)
    hseq (fun h k => h.trans k) (fun W l o o' hl ho hc _ => (Keeps.refl kp W).grown (grownBy_putObj' W l o') (fun k e _ hk => by cases e; have := hkpn _ hk; omega)) (Below.refl _ _) (fun _ => rfl)
    (fun (pre : List (Int × Int)) W => CInv w2 A0 pre W ∧ pre.length ≤ ms.length)
    (fun _ _ _ => False)
    (fun s W W' row hs hg hr => ⟨hs.1.kept hg (fun r e => ⟨by have := (hr r e).1; omega, (hr r e).2⟩), hs.2⟩)
    (fun _ _ _ _ _ hs _ _ => hs)
    ⟨⟨hB0, by omega, .slice none 0 0, hp0, World.ownsRow_nil _ _ _ _⟩, by simp⟩
    (fun x => { tmps := #[.agg #[.slice A0 xs.length c0, .slice A1 ms.length c1], .agg #[.int .i64 k, .int .i64 1], .slice (some ⟨Bh, 0, none⟩) 1 1, .pointer (some ⟨w.heap.size, 0, none⟩), .pointer (some ⟨w.heap.size + 1, 0, none⟩), undef, .pointer (some ⟨w.heap.size + 1 + 1, 0, none⟩), .int .i64 0, .int .i64 0, .pointer (some ⟨w2.heap.size, 0, none⟩), encP A0 x, undef, undef, undef, undef, undef, undef, undef, undef, undef, undef, .agg #[.slice A0 xs.length c0, .slice A1 ms.length c1], .int .i64 0, .int .i64 0, .bool false, undef, undef, .agg #[.int .i64 k, .int .i64 1], .bool true, .bool false, undef, .agg #[.slice A0 xs.length c0, .slice A1 ms.length c1], .func (.func 72) #[] #[.pointer (some ⟨w2.heap.size + 1, 0, none⟩)], encP A0 x, undef, undef, undef, undef, undef, undef, undef, undef, undef, undef, undef, undef, undef, undef, undef, undef, undef, undef, undef, undef, undef, undef, undef, undef, undef, undef, undef, undef, undef, undef, undef, undef, undef, undef, undef, undef, undef, undef, undef, undef, undef, undef, undef, undef, undef, undef, undef, undef, undef, undef, undef, undef, undef, undef, undef, undef, undef, undef, undef, undef, undef, undef, undef, undef, undef, undef, undef, undef, undef, undef, undef, undef, undef, undef, undef, undef, undef, undef, undef, undef, undef, undef, undef, undef], defers := [] })
    ?assign ?body ?done ?stop
  case assign =>
    intro l x W K hK
    simp only [encPs]
    gi_wp2
    exact hK
  case body =>
    rintro l pre x W ⟨hI, hlen⟩ hlt
    obtain ⟨Ae, ne, ce, hE⟩ : ∃ Ae ne ce, encP A0 x = .slice Ae ne ce := ⟨_, _, _, rfl⟩
    dsimp only
    rw [hE]
    obtain ⟨hb1, hsz1, v, hp1, ho1⟩ := hI
    have hcv : W.cell? ⟨w2.heap.size, 0, none⟩ = some v := blk_cell hp1 0
    have HP := Aside0.mk hp1
    have HO := Aside0.mk ho1
    have HBw := Aside0.mk hb1
    have hcva : (W.alloc (.cells #[.slice Ae ne ce] 22)).cell? ⟨w2.heap.size, 0, none⟩ = some v := pw_cell_below (below_alloc (Below.refl _ _) _) hcv
    clear hp1 ho1 hb1 hseq hp0 hB0
    gi_wp2_with (gi_at_builtin; refine append_listIn (fun _ => trivial) rfl (.tmp 34) (.tmp 36) 128 22 (.slice none 0 0) 1 24 rfl Try.underlying128 info22 rfl (by decide) (by decide) (w2.heap.size + 2) v pre.length (pre.map (encP A0)) (some ⟨_, 0, none⟩) 1 1 [.slice Ae ne ce] rfl rfl (pw_own_below HO.out ?ownb) rfl (Cells.new' ?newb _ #[.slice Ae ne ce] 22 1) (fun u hu => by simp at hu; subst hu; rfl) ?bytes ?base ?_)
    try (case newb => first | exact rfl | (simp; done))
    case ownb => exact below_alloc (Below.refl _ _) _
    case bytes => omega
    case base => (try simp); omega
    intro v1 w1' hA
    obtain ⟨Av, cv, rfl⟩ := own_slice hA.own
    have hp2 := blk_grown (pw_blk_below HP.out (below_alloc (Below.refl _ _) (.cells #[.slice Ae ne ce] 22))) hA.grown (own_ne HO.out HP.out (by decide))
    have hfz : w1'.frozen? ⟨w2.heap.size, 0, none⟩ = false := blk_frozen hp2 0
    have hcl : w1'.cell? ⟨w2.heap.size, 0, none⟩ = some v := blk_cell hp2 0
    have hZo := own_far hA.own (a := ⟨w2.heap.size, 0, none⟩) (own_ne hA.own hp2 (by decide)) (.slice Av (pre.length + 1) cv)
    have HZ : Aside0 (CInv w2 A0 (pre ++ [x]) (w1'.setCell ⟨w2.heap.size, 0, none⟩ (.slice Av (pre.length + 1) cv))) :=
      ⟨⟨((below_alloc HBw.out _).grown hA.grown (below_alloc HBw.out _).size (fun k e => by have := own_base HO.out k e; omega)).setCell (Nat.le_refl _) _, Nat.le_trans hsz1 (by have := hA.grown.size; simp [World.setCell] at *; omega), _, blk_put hp2 0 _ rfl, by simpa [List.map_append, hE] using hZo⟩⟩
    have HKZ : Aside0 (Keeps kp W (w1'.setCell ⟨w2.heap.size, 0, none⟩ (.slice Av (pre.length + 1) cv))) :=
      ⟨(((Keeps.of_below (below_alloc (Below.refl _ _) _)).grown hA.grown (fun j e _ hj => by have := own_base HO.out j e; have := hkpn _ hj; omega))).setCell (fun _ h => by have := hkpn _ h; dsimp only at this; omega) _⟩
    have HFZ : Aside0 (KeepsFrom W0.heap.size W (w1'.setCell ⟨w2.heap.size, 0, none⟩ (.slice Av (pre.length + 1) cv))) :=
      ⟨(((KeepsOthers.alloc _ _).trans (KeepsOthers.of_grownBy hA.grown (own_cells (pw_own_below HO.out (below_alloc (Below.refl _ _) _))))).trans (KeepsOthers.setCell _ _ _)).from _⟩
    clear hp2 hZo hA
    gi_wp2
    exact ⟨HFZ.out, HKZ.out, HZ.out, by simp; omega⟩
  case done =>
    rintro D pre W hD rfl ⟨hI, _⟩ hdef
    obtain ⟨hb1, hsz1, v, hp1, ho1⟩ := hI
    rw [hN] at ho1
    obtain ⟨Ap, cp, rfl⟩ := own_slice ho1
    obtain ⟨hcl, hcp, _⟩ := own_cellsOf ho1
    have hlen : ((pairs ms).map (encP A0)).length = ms.length - 1 := by rw [List.length_map, hN]
    have hst : ∀ W' : World, Below W.heap.size W W' → Calls Try.prog 31 #[.agg #[.int .i64 k, .int .i64 1], .slice Ap (ms.length - 1) cp] W' fun e w' => ∃ v, e = .returned v ∧ w'.ownsRow W'.heap.size 22 1 v (totS k ms) (repV k ((pairs ms).map (encP A0)) (totS k ms)) ∧ Below W'.heap.size W' w' := by
      intro W' hb
      have := stretched_ok k Ap cp ((pairs ms).map (encP A0)) W' (by rw [hlen]; exact hcl.below hb) (fun u hu => by
        obtain ⟨x, _, rfl⟩ := List.mem_map.1 hu
        exact ⟨_, _, _, rfl⟩) hk1 (by rw [hlen]; omega)
      rw [hlen] at this
      exact this
    have HST := Aside0.mk hst
    have HP := Aside0.mk hp1
    have HBW := Aside0.mk (below_trans' HB.out hb1)
    have HT' := Aside0.mk (pw_blk_below HT.out hb1)
    have HS' := Aside0.mk (pw_blk_below HS.out hb1)
    have HR' := Aside0.mk (pw_blk_below HRr.out hb1)
    have HD := Aside0.mk hdef
    have hh0 : W.cell? ⟨Bh, 0, none⟩ = some (.func (.func 31) #[] #[]) := blk_cell (pw_blk_below HH.out (below_trans' HB.out hb1)) 0
    have hpc : W.cell? ⟨w2.heap.size, 0, none⟩ = some (.slice Ap (ms.length - 1) cp) := blk_cell hp1 0
    have ht0 : W.cell? ⟨w.heap.size + 1, 0, none⟩ = some (.int .i64 k) := blk_cell HT'.out 0
    have ht1 : W.cell? ⟨w.heap.size + 1, 1, none⟩ = some (.int .i64 1) := blk_cell HT'.out 1
    clear hst hcl ho1 hp1 hdef hseq hp0 hB0 HT hlen hN
    dsimp only
    gi_wp2
    gi_loopw [40] (fun i wr => (i = .int .i64 0 ∧ Aside0 (wr = W)) ∨ (i = .int .i64 1 ∧ Aside0 (Below w2.heap.size w2 wr ∧ wr.heap[D]? = some (.deferred (some [])) ∧ ∃ v, wr.heap[w2.heap.size]? = some (.cells #[v] 128) ∧ wr.ownsRow (w2.heap.size + 2) 22 1 v (totS k ms) (repV k ((pairs ms).map (encP A0)) (totS k ms))))) (fun i _ => 1 - (intOf i).toNat)
    case atStart => exact .inl ⟨rfl, ⟨rfl⟩⟩
    case round =>
      rcases hrel with ⟨rfl, HE⟩ | ⟨rfl, HE⟩
      · have hE := HE.out
        subst hE
        gi_wp2_with fail
        refine ⟨trivial, fun h => (by cases h), ?_⟩
        refine (callsIn_wide.2 (HST.out _ (Below.refl _ _))).mono ?_
        rintro e w3 ⟨v, rfl, ho, hb3⟩
        obtain ⟨Aq, cq, rfl⟩ := own_slice ho
        have hp3 := pw_blk_below HP.out hb3
        have hfz : w3.frozen? ⟨w2.heap.size, 0, none⟩ = false := blk_frozen hp3 0
        have hcl : w3.cell? ⟨w2.heap.size, 0, none⟩ = some (.slice Ap (ms.length - 1) cp) := blk_cell hp3 0
        have HZ : Aside0 (Below w2.heap.size w2 (w3.setCell ⟨w2.heap.size, 0, none⟩ (.slice Aq (totS k ms) cq)) ∧ (w3.setCell ⟨w2.heap.size, 0, none⟩ (.slice Aq (totS k ms) cq)).heap[D]? = some (.deferred (some [])) ∧ ∃ v, (w3.setCell ⟨w2.heap.size, 0, none⟩ (.slice Aq (totS k ms) cq)).heap[w2.heap.size]? = some (.cells #[v] 128) ∧ (w3.setCell ⟨w2.heap.size, 0, none⟩ (.slice Aq (totS k ms) cq)).ownsRow (w2.heap.size + 2) 22 1 v (totS k ms) (repV k ((pairs ms).map (encP A0)) (totS k ms))) :=
          ⟨(below_trans' hb1 hb3).setCell (Nat.le_refl _) _, blk_far'' (pw_blk_below HD.out hb3) (by dsimp only; omega) _, _, blk_put hp3 0 _ rfl, own_far (own_weak ho (by omega)) (own_ne ho hp3 (by decide)) _⟩
        clear ho hb3 hp3 HST
        gi_wp2
        go_roundw
        case rel => exact .inr ⟨rfl, HZ⟩
        case measure => simp [intOf]
      · obtain ⟨hbz, hdz, v, hpz, hoz⟩ := HE.out
        obtain ⟨Aq, cq, rfl⟩ := own_slice hoz
        obtain ⟨hcl, hcq, _⟩ := own_cellsOf hoz
        have HBZ := Aside0.mk (below_trans' HB.out hbz)
        have HDZ := Aside0.mk hdz
        have HCL := Aside0.mk hcl
        have hpq : wr.cell? ⟨w2.heap.size, 0, none⟩ = some (.slice Aq (totS k ms) cq) := blk_cell hpz 0
        have HPZ := Aside0.mk hpz
        have HRZ : Aside0 (wr.heap[w.heap.size + 1 + 1]? = some (.cells #[.slice none 0 0, .slice none 0 0] 24)) := ⟨pw_blk_below HRr.out hbz⟩
        have HSZ' : Aside0 (wr.heap[w.heap.size]? = some (.cells #[.slice A0 xs.length c0, .slice A1 ms.length c1] 24)) := ⟨pw_blk_below HS.out hbz⟩
        have hs0 : wr.cell? ⟨w.heap.size, 0, none⟩ = some (.slice A0 xs.length c0) := blk_cell HSZ'.out 0
        have hs1 : wr.cell? ⟨w.heap.size, 1, none⟩ = some (.slice A1 ms.length c1) := blk_cell HSZ'.out 1
        obtain ⟨ad, rfl, hc1⟩ := Kd.at_int H1.out 0 (by omega) (by omega)
        obtain ⟨ad', e', hc2⟩ := Kd.at_int H1.out ((ms.length : Int) - 1) (by omega) (by omega)
        cases e'
        rw [show ad.add (0 : Int).toNat = ad from by simp [Addr.add]] at hc1
        rw [show ((ms.length : Int) - 1).toNat = ms.length - 1 from by omega] at hc2
        replace hc1 := pw_cell_below HBZ.out hc1
        replace hc2 := pw_cell_below HBZ.out hc2
        clear hcl hoz hpz hbz hdz HST HP HBW HT' HS' HR' hh0 hpc ht0 ht1 hb1 HE HD
        have p0 := HK.out.2 0 (by omega)
        have pl := HK.out.2 (ms.length - 1) (by omega)
        rw [show ((ms.length - 1 : Nat) : Int) = (ms.length : Int) - 1 from by omega] at pl
        have hhead : (rd ms 0) ≤ (xs.length : Int) := p0.2.1
        have hhead0 : 0 ≤ rd ms 0 := p0.1
        have hlast : (rd ms ((ms.length : Int) - 1)) ≤ (xs.length : Int) := pl.2.1
        have hlast0 : 0 ≤ rd ms ((ms.length : Int) - 1) := pl.1
        clear p0 pl
        have hcut1 : ∀ W : World, (Instr.slice 22 (.slice A0 xs.length c0) none (some (.int .i64 (rd ms 0))) none).run Try.prog W = .ok (.slice A0 (rd ms 0).toNat c0) W := by
          obtain ⟨i, hi, hz⟩ := Option.map_eq_some_iff.1 info3
          exact cut_to 22 3 .i64 Try.underlying22 hi A0 xs.length c0 (rd ms 0) hhead0 hhead HC0.out
        obtain ⟨At, ct, hcut2, HCT⟩ : ∃ At ct, (∀ W : World, (Instr.slice 22 (.slice A0 xs.length c0) (some (.int .i64 (rd ms ((ms.length : Int) - 1)))) none none).run Try.prog W = .ok (.slice At (xs.length - (rd ms ((ms.length : Int) - 1)).toNat) ct) W) ∧ Aside0 (Kd.C (Kd.int .i64) w At (tailS xs ms).length (tailS xs ms)) := by
          obtain ⟨i, hi, hz⟩ := Option.map_eq_some_iff.1 info3
          simp only [Prod.mk.injEq] at hz
          exact ⟨_, _, cut_from 22 3 .i64 Try.underlying22 hi 1 hz.2.1 A0 xs.length c0 _ hlast0 hlast, ⟨Kd.C_drop (c := c0) H0.out (by omega) HC0.out⟩⟩
        have HCH : Aside0 (Kd.C (Kd.int .i64) w A0 (headS xs ms).length (headS xs ms)) := ⟨Kd.C_take H0.out (by omega)⟩
        have hlh : (headS xs ms).length = (rd ms 0).toNat := by unfold headS; rw [List.length_take]; omega
        have hlt : (tailS xs ms).length = xs.length - (rd ms ((ms.length : Int) - 1)).toNat := by unfold tailS; rw [List.length_drop]
        rw [← hlh] at hcut1
        rw [← hlt] at hcut2
        have HLH := Aside0.mk hlh
        have HLT := Aside0.mk hlt
        have HLE : Aside0 ((headS xs ms).length + (tailS xs ms).length ≤ 2 * xs.length) := ⟨by omega⟩
        have hz1 : (1 : Int) ≤ (ms.length : Int) := by omega
        have hz2 : (0 : Int) < (ms.length : Int) := by omega
        have hw1 : IntKind.i64.wrap ((ms.length : Int) - 1) = (ms.length : Int) - 1 := IntWalk.i64_in _ (by omega)
        clear hlh hlt hhead hlast
        generalize rd ms 0 = m0 at *
        generalize rd ms ((ms.length : Int) - 1) = ml at *
        gi_wp2
        refine wpIn_wide.2 ?_
        go_quiet (fail)
        replace HBZ : Aside0 (Below w.heap.size w (wr.drewN nq)) := ⟨pw_below_drewN HBZ.out nq⟩
        replace HDZ : Aside0 ((wr.drewN nq).heap[D]? = some (.deferred (some []))) := ⟨HDZ.out⟩
        replace HCL : Aside0 (Cells (wr.drewN nq) Aq (totS k ms) (repV k ((pairs ms).map (encP A0)) (totS k ms))) := ⟨HCL.out⟩
        replace HPZ : Aside0 ((wr.drewN nq).heap[w2.heap.size]? = some (.cells #[.slice Aq (totS k ms) cq] 128)) := ⟨HPZ.out⟩
        replace HRZ : Aside0 ((wr.drewN nq).heap[w.heap.size + 1 + 1]? = some (.cells #[.slice none 0 0, .slice none 0 0] 24)) := ⟨HRZ.out⟩
        replace HSZ : Aside0 (w.heap.size + 3 ≤ (wr.drewN nq).heap.size) := ⟨by have := blk_lt HPZ.out; have := HSZ.out; omega⟩
        replace hpq : (wr.drewN nq).cell? ⟨w2.heap.size, 0, none⟩ = some (.slice Aq (totS k ms) cq) := hpq
        have HD2 : Aside0 (D ≠ w.heap.size + 1 + 1) := ⟨by have := HSZ.out; have := blk_lt HRr.out; omega⟩
        clear hs0 hs1 hc1 hc2 hcut1 hcut2 HSZ' HS HRr
        generalize wr.drewN nq = w4 at *
        have HTOT : Aside0 (totS k ms ≤ 8000) := ⟨by unfold totS; have := Nat.mul_le_mul hk1.2 (show ms.length - 1 ≤ 1000 by omega); omega⟩
        have HT0 := HTOT.out
        have hle0 : (headS xs ms).length + (tailS xs ms).length ≤ 100000 := by have := HLE.out; omega
        gi_wp2
        gi_loopw [15, 74] (fun s15 i wr => ∃ j : Nat, j ≤ totS k ms ∧ i = .int .i64 j ∧ s15 = .int .i64 (((sampS k xs ms j).length + (tailS xs ms).length : Nat) : Int) ∧ Aside0 (wr = w4)) (fun _ i _ => totS k ms - (intOf i).toNat)
        case atStart =>
          refine ⟨0, Nat.zero_le _, rfl, ?_, ⟨rfl⟩⟩
          rw [show (sampS k xs ms 0).length = (headS xs ms).length from by simp [sampS]]
          go_num
        case round =>
          obtain ⟨j, hj, rfl, rfl, HE⟩ := hrel
          have hE := HE.out
          subst hE
          have hbd := sampS_bound HK.out hk1 hj
          have hbd : (sampS k xs ms j).length + (tailS xs ms).length ≤ 100000 := by omega
          by_cases hlt : j < totS k ms
          · have hltz : (j : Int) < (totS k ms : Int) := by omega
            obtain ⟨hg, hq⟩ := repV_get (A0 := A0) (ms := ms) hk1.1 hlt
            obtain ⟨Ae, hE, hCe⟩ := C_per H0.out HC0.out HK.out hq
            rw [hE] at hg
            obtain ⟨aq, rfl, hcells⟩ := HCL.out (by omega)
            have hc := hcells j _ hg
            have hs := sampS_succ k xs ms j
            have hs' : (sampS k xs ms (j + 1)).length = (sampS k xs ms j).length + (per xs ms (j / k)).length := by rw [hs, List.length_append]
            have hbd1 := sampS_bound HK.out hk1 (show j + 1 ≤ totS k ms by omega)
            have HS1 : Aside0 ((sampS k xs ms (j + 1)).length + (tailS xs ms).length = (sampS k xs ms j).length + (tailS xs ms).length + (per xs ms (j / k)).length) := ⟨by omega⟩
            have hpl : (per xs ms (j / k)).length ≤ 100000 := by omega
            clear hg hE hCe hcells hs hs' hbd1 hq
            generalize (per xs ms (j / k)).length = pl at *
            generalize (sampS k xs ms j).length + (tailS xs ms).length = sl at *
            gi_wp2
            go_roundw
            case rel => exact ⟨j + 1, by omega, by go_num, by rw [HS1.out]; go_num, by first | exact ⟨rfl⟩ | exact ⟨trivial⟩⟩
            case measure => simp [intOf]; omega
          · have hltz : ¬ (j : Int) < (totS k ms : Int) := by omega
            obtain rfl : j = totS k ms := by omega
            have hsl : ¬ ((((sampS k xs ms (totS k ms)).length + (tailS xs ms).length : Nat) : Int) > 100000) := by omega
            generalize (sampS k xs ms (totS k ms)).length + (tailS xs ms).length = sl at *
            gi_wp2_with fail
            refine ⟨trivial, fun h => (by cases h), ?_⟩
            obtain ⟨wb, hwb⟩ : ∃ x, x = wr := ⟨_, rfl⟩
            subst hwb
            refine (callsIn_wide.2 (Clone_ints A0 c0 (headS xs ms) wb (Kd.C_below HCH.out HBZ.out) (by omega))).mono ?_
            rintro e w5 ⟨vh, rfl, hvh, hb5⟩
            obtain ⟨Ah, ch, rfl⟩ := own_slice hvh
            have hpq5 := pw_cell_below hb5 hpq
            have hX5 : Below w5.heap.size w5 ((w5.alloc (.cells #[.int .i64 (headS xs ms).length] 3)).alloc (.cells #[.slice Ah (headS xs ms).length ch, .slice (some ⟨w5.heap.size, 0, none⟩) 1 1] 24)) := below_alloc (below_alloc (Below.refl _ _) _) _
            have hpq6 := pw_cell_below hX5 hpq5
            have hI0 : DInv wb (w5.heap.size + 1) (sampS k xs ms 0) (markS k xs ms 0) ((w5.alloc (.cells #[.int .i64 (headS xs ms).length] 3)).alloc (.cells #[.slice Ah (headS xs ms).length ch, .slice (some ⟨w5.heap.size, 0, none⟩) 1 1] 24)) := by
              have hs0 : sampS k xs ms 0 = headS xs ms := by simp [sampS]
              have hm0 : markS k xs ms 0 = [((headS xs ms).length : Int)] := by simp [markS, hs0]
              have hbb := hb5.size
              rw [hs0, hm0]
              refine ⟨below_trans' hb5 hX5, _, _, blk_new' (by simp) _, pw_own_below hvh hX5, ⟨rfl, .inr ⟨w5.heap.size, 1, #[.int .i64 (headS xs ms).length], rfl, hbb, pw_blk_below (blk_new' rfl _) (below_alloc (Below.refl _ _) _), Nat.le_refl _, by decide, rfl, rfl⟩⟩, ?_⟩
              refine .inr fun e => ?_
              have := own_lt hvh w5.heap.size e
              omega
            have HI0 := Aside0.mk hI0
            have HB5 : Aside0 (wb.heap.size ≤ w5.heap.size) := ⟨hb5.size⟩
            clear hI0 hX5 hvh hb5 hpq5
            gi_wp2
            gi_loopw [94] (fun i wr => ∃ j : Nat, j ≤ totS k ms ∧ i = .int .i64 j ∧ Aside0 (DInv wb (w5.heap.size + 1) (sampS k xs ms j) (markS k xs ms j) wr)) (fun i _ => totS k ms - (intOf i).toNat)
            case atStart =>
              exact ⟨0, Nat.zero_le _, rfl, HI0⟩
            case round =>
              obtain ⟨j, hj, rfl, HI⟩ := hrel
              obtain ⟨hbx, vs, vm, ho, hs, hm, hne⟩ := HI.out
              have hbd := sampS_bound HK.out hk1 hj
              have hbd : (sampS k xs ms j).length + (tailS xs ms).length ≤ 100000 := by omega
              obtain ⟨As, cs, rfl⟩ := own_slice hs
              rw [markS_length] at hm
              obtain ⟨Am, cm, rfl⟩ := own_slice hm
              have hO0 : wr.cell? ⟨w5.heap.size + 1, 0, none⟩ = some (.slice As (sampS k xs ms j).length cs) := blk_cell ho 0
              have hO1 : wr.cell? ⟨w5.heap.size + 1, 1, none⟩ = some (.slice Am (j + 1) cm) := blk_cell ho 1
              have HBX := Aside0.mk hbx
              have HO := Aside0.mk ho
              have HSm := Aside0.mk hs
              have HMm := Aside0.mk hm
              have HNE := Aside0.mk hne
              clear hbx ho hs hm hne
              by_cases hlt : j < totS k ms
              · have hltz : (j : Int) < (totS k ms : Int) := by omega
                obtain ⟨hg, hq⟩ := repV_get (A0 := A0) (ms := ms) hk1.1 hlt
                obtain ⟨Ae, hE, hCe⟩ := C_per H0.out HC0.out HK.out hq
                rw [hE] at hg
                obtain ⟨aq, rfl, hcells⟩ := HCL.out (by omega)
                have hc := pw_cell_below HBX.out (hcells j _ hg)
                have hs := sampS_succ k xs ms j
                have hmk := markS_succ k xs ms j
                have hs' : (sampS k xs ms (j + 1)).length = (sampS k xs ms j).length + (per xs ms (j / k)).length := by rw [hs, List.length_append]
                have hbd1 := sampS_bound HK.out hk1 (show j + 1 ≤ totS k ms by omega)
                have HS1 := Aside0.mk hs
                have HS2 := Aside0.mk hs'
                have HMK := Aside0.mk hmk
                have HCE := Aside0.mk (Kd.C_below hCe (below_trans' HBZ.out HBX.out))
                have hsum : (sampS k xs ms j).length + (per xs ms (j / k)).length ≤ 100000 := by omega
                clear hg hE hCe hcells hs hs' hbd1 hq hmk
                generalize (per xs ms (j / k)) = pr at *
                gi_wp2_with (gi_at_builtin; refine append_listIn (fun _ => trivial) rfl (.tmp 99) (.tmp 100) 22 3 (.int .i64 0) 1 8 rfl Try.underlying22 info3 rfl (by decide) (by decide) wb.heap.size _ (sampS k xs ms j).length (Flat eI (sampS k xs ms j)) Ae pr.length pr.length (Flat eI pr) rfl rfl HSm.out (by rw [Flat_length eI_len]; rfl) (Cells.of_C (Kd.int .i64) eI_len eI_inv (by decide) HCE.out) (Flat_mem eI_one) (by omega) HBX.out.size ?_)
                intro u6 w6 hA
                have hDI := DInv.samples (mks := markS k xs ms j) HBX.out (by have := HB5.out; omega) HO.out HSm.out (by rw [markS_length]; exact HMm.out) HNE.out hA (by simp)
                obtain ⟨A6, c6, rfl⟩ := own_slice hA.own
                have ho6 := blk_grown HO.out hA.grown (own_ne HSm.out HO.out (by decide))
                have hfz : w6.frozen? ⟨w5.heap.size + 1, 0, none⟩ = false := blk_frozen ho6 0
                have hcl : w6.cell? ⟨w5.heap.size + 1, 0, none⟩ = some (.slice As (sampS k xs ms j).length cs) := blk_cell ho6 0
                have HDI := Aside0.mk hDI
                have hoz : (w6.setCell ⟨w5.heap.size + 1, 0, none⟩ (.slice A6 ((sampS k xs ms j).length + pr.length) c6)).heap[w5.heap.size + 1]? = some (.cells #[.slice A6 ((sampS k xs ms j).length + pr.length) c6, .slice Am (j + 1) cm] 24) := blk_put ho6 0 _ rfl
                clear hDI ho6 hA hc
                obtain ⟨hb6, vs6, vm6, ho6, hs6, hm6, hne6⟩ := HDI.out
                rw [markS_length] at hm6
                rw [hoz] at ho6
                obtain ⟨rfl, rfl⟩ : vs6 = .slice A6 ((sampS k xs ms j).length + pr.length) c6 ∧ vm6 = .slice Am (j + 1) cm := by simpa using ho6.symm
                have hq0 : (w6.setCell ⟨w5.heap.size + 1, 0, none⟩ (.slice A6 ((sampS k xs ms j).length + pr.length) c6)).cell? ⟨w5.heap.size + 1, 0, none⟩ = some (.slice A6 ((sampS k xs ms j).length + pr.length) c6) := blk_cell hoz 0
                have hq1 : (w6.setCell ⟨w5.heap.size + 1, 0, none⟩ (.slice A6 ((sampS k xs ms j).length + pr.length) c6)).cell? ⟨w5.heap.size + 1, 1, none⟩ = some (.slice Am (j + 1) cm) := blk_cell hoz 1
                have HB6 := Aside0.mk hb6
                have HO6 := Aside0.mk hoz
                have HS6 := Aside0.mk hs6
                have HM6 := Aside0.mk hm6
                have HN6 := Aside0.mk hne6
                have hlz : (sampS k xs ms (j + 1)).length = (sampS k xs ms j).length + pr.length := HS2.out
                rw [← HS1.out] at HDI HS6
                clear hb6 hs6 hm6 hne6 ho6 hoz HDI hlz
                have hmz : (j + 1) ≤ 8001 := by omega
                gi_wp2_with (gi_at_builtin; go_loud (refine append_listIn (fun _ => trivial) rfl (.tmp 104) (.tmp 108) 22 3 (.int .i64 0) 1 8 rfl Try.underlying22 info3 rfl (by decide) (by decide) wb.heap.size _ (j + 1) (Flat eI (markS k xs ms j)) (some ⟨_, 0, none⟩) 1 1 (Flat eI [((sampS k xs ms j).length : Int) + (pr.length : Int)]) rfl rfl (pw_own_below HM6.out ?ownb) rfl (Cells.new' ?newb _ #[.int .i64 (((sampS k xs ms j).length : Int) + (pr.length : Int))] 3 1) (Flat_mem eI_one) ?bytes ?base ?_))
                try (case newb => first | exact rfl | (simp; done))
                case ownb => exact below_alloc (Below.refl _ _) _
                case bytes => omega
                case base => have := HB6.out.size; (try simp at *); omega
                intro u7 w7 hA
                have hX7 : Below (w6.setCell ⟨w5.heap.size + 1, 0, none⟩ (.slice A6 ((sampS k xs ms j).length + pr.length) c6)).heap.size (w6.setCell ⟨w5.heap.size + 1, 0, none⟩ (.slice A6 ((sampS k xs ms j).length + pr.length) c6)) ((w6.setCell ⟨w5.heap.size + 1, 0, none⟩ (.slice A6 ((sampS k xs ms j).length + pr.length) c6)).alloc (.cells #[.int .i64 (((sampS k xs ms j).length : Int) + (pr.length : Int))] 3)) := below_alloc (Below.refl _ _) _
                have hDI := DInv.marks (wr := wb) (Bo := w5.heap.size + 1) (ss := sampS k xs ms (j + 1)) (mks := markS k xs ms j) (below_trans' HB6.out hX7) (by have := HB5.out; omega) (pw_blk_below HO6.out hX7) (pw_own_below HS6.out hX7) (by rw [markS_length]; exact pw_own_below HM6.out hX7) HN6.out hA (by simp [markS_length])
                obtain ⟨A7, c7, rfl⟩ := own_slice hA.own
                have ho7 := blk_grown (pw_blk_below HO6.out hX7) hA.grown (own_ne HM6.out HO6.out (by decide))
                have hfz7 : w7.frozen? ⟨w5.heap.size + 1, 1, none⟩ = false := blk_frozen ho7 1
                have hcl7 : w7.cell? ⟨w5.heap.size + 1, 1, none⟩ = some (.slice Am (j + 1) cm) := blk_cell ho7 1
                have hmk2 : markS k xs ms j ++ [((sampS k xs ms j).length : Int) + (pr.length : Int)] = markS k xs ms (j + 1) := by rw [HMK.out, HS2.out]; push_cast; rfl
                rw [hmk2] at hDI
                have HDI := Aside0.mk hDI
                clear hDI ho7 hX7 hA hq0 hq1 hO0 hO1 hmk2
                gi_wp2
                go_roundw
                case rel => exact ⟨j + 1, by omega, by go_num, HDI⟩
                case measure => simp [intOf]; omega
              · have hltz : ¬ (j : Int) < (totS k ms : Int) := by omega
                obtain rfl : j = totS k ms := by omega
                have HCT2 := Aside0.mk (Kd.C_below HCT.out (below_trans' HBZ.out HBX.out))
                gi_wp2_with (gi_at_builtin; go_loud (refine append_listIn (fun _ => trivial) rfl (.tmp 113) (.tmp 114) 22 3 (.int .i64 0) 1 8 rfl Try.underlying22 info3 rfl (by decide) (by decide) wb.heap.size _ (sampS k xs ms (totS k ms)).length (Flat eI (sampS k xs ms (totS k ms))) At (tailS xs ms).length ct (Flat eI (tailS xs ms)) rfl rfl HSm.out (by rw [Flat_length eI_len]; rfl) (Cells.of_C (Kd.int .i64) eI_len eI_inv (by decide) HCT2.out) (Flat_mem eI_one) (by omega) HBX.out.size ?_))
                intro u6 w6 hA
                have hDI := DInv.samples (mks := markS k xs ms (totS k ms)) HBX.out (by have := HB5.out; omega) HO.out HSm.out (by rw [markS_length]; exact HMm.out) HNE.out hA (by simp)
                obtain ⟨A6, c6, rfl⟩ := own_slice hA.own
                have ho6 := blk_grown HO.out hA.grown (own_ne HSm.out HO.out (by decide))
                have hfz : w6.frozen? ⟨w5.heap.size + 1, 0, none⟩ = false := blk_frozen ho6 0
                have hcl : w6.cell? ⟨w5.heap.size + 1, 0, none⟩ = some (.slice As (sampS k xs ms (totS k ms)).length cs) := blk_cell ho6 0
                have hoz : (w6.setCell ⟨w5.heap.size + 1, 0, none⟩ (.slice A6 ((sampS k xs ms (totS k ms)).length + (tailS xs ms).length) c6)).heap[w5.heap.size + 1]? = some (.cells #[(.slice A6 ((sampS k xs ms (totS k ms)).length + (tailS xs ms).length) c6), (.slice Am (totS k ms + 1) cm)] 24) := blk_put ho6 0 _ rfl
                clear ho6 hA
                obtain ⟨hb6, vs6, vm6, ho6, hs6, hm6, hne6⟩ := hDI
                rw [markS_length] at hm6
                rw [hoz] at ho6
                obtain ⟨rfl, rfl⟩ : vs6 = (.slice A6 ((sampS k xs ms (totS k ms)).length + (tailS xs ms).length) c6) ∧ vm6 = (.slice Am (totS k ms + 1) cm) := by simpa using ho6.symm
                have hq0 : (w6.setCell ⟨w5.heap.size + 1, 0, none⟩ (.slice A6 ((sampS k xs ms (totS k ms)).length + (tailS xs ms).length) c6)).cell? ⟨w5.heap.size + 1, 0, none⟩ = some (.slice A6 ((sampS k xs ms (totS k ms)).length + (tailS xs ms).length) c6) := blk_cell hoz 0
                have hq1 : (w6.setCell ⟨w5.heap.size + 1, 0, none⟩ (.slice A6 ((sampS k xs ms (totS k ms)).length + (tailS xs ms).length) c6)).cell? ⟨w5.heap.size + 1, 1, none⟩ = some (.slice Am (totS k ms + 1) cm) := blk_cell hoz 1
                have hr0 := pw_blk_below HRZ.out hb6
                have hd0 := pw_blk_below HDZ.out hb6
                have hfr0 : (w6.setCell ⟨w5.heap.size + 1, 0, none⟩ (.slice A6 ((sampS k xs ms (totS k ms)).length + (tailS xs ms).length) c6)).frozen? ⟨w.heap.size + 1 + 1, 0, none⟩ = false := blk_frozen hr0 0
                have hcr0 : (w6.setCell ⟨w5.heap.size + 1, 0, none⟩ (.slice A6 ((sampS k xs ms (totS k ms)).length + (tailS xs ms).length) c6)).cell? ⟨w.heap.size + 1 + 1, 0, none⟩ = some (.slice none 0 0) := blk_cell hr0 0
                have hr1 := blk_put hr0 0 (.slice A6 ((sampS k xs ms (totS k ms)).length + (tailS xs ms).length) c6) rfl
                have hfr1 : ((w6.setCell ⟨w5.heap.size + 1, 0, none⟩ (.slice A6 ((sampS k xs ms (totS k ms)).length + (tailS xs ms).length) c6)).setCell ⟨w.heap.size + 1 + 1, 0, none⟩ (.slice A6 ((sampS k xs ms (totS k ms)).length + (tailS xs ms).length) c6)).frozen? ⟨w.heap.size + 1 + 1, 1, none⟩ = false := blk_frozen hr1 1
                have hcr1 : ((w6.setCell ⟨w5.heap.size + 1, 0, none⟩ (.slice A6 ((sampS k xs ms (totS k ms)).length + (tailS xs ms).length) c6)).setCell ⟨w.heap.size + 1 + 1, 0, none⟩ (.slice A6 ((sampS k xs ms (totS k ms)).length + (tailS xs ms).length) c6)).cell? ⟨w.heap.size + 1 + 1, 1, none⟩ = some (.slice none 0 0) := blk_cell hr1 1
                have hr2 := blk_put hr1 1 (.slice Am (totS k ms + 1) cm) rfl
                have hs7 := own_far hs6 (a := ⟨w.heap.size + 1 + 1, 0, none⟩) (own_ne hs6 hr0 (by decide)) (.slice A6 ((sampS k xs ms (totS k ms)).length + (tailS xs ms).length) c6)
                have hs8 := own_far hs7 (a := ⟨w.heap.size + 1 + 1, 1, none⟩) (own_ne hs7 hr1 (by decide)) (.slice Am (totS k ms + 1) cm)
                have hm7 := own_far hm6 (a := ⟨w.heap.size + 1 + 1, 0, none⟩) (own_ne hm6 hr0 (by decide)) (.slice A6 ((sampS k xs ms (totS k ms)).length + (tailS xs ms).length) c6)
                have hm8 := own_far hm7 (a := ⟨w.heap.size + 1 + 1, 1, none⟩) (own_ne hm7 hr1 (by decide)) (.slice Am (totS k ms + 1) cm)
                have hb8 := (((below_trans' HBZ.out hb6).setCell (p := ⟨w.heap.size + 1 + 1, 0, none⟩) (by dsimp only; omega) (.slice A6 ((sampS k xs ms (totS k ms)).length + (tailS xs ms).length) c6))).setCell (p := ⟨w.heap.size + 1 + 1, 1, none⟩) (by dsimp only; omega) (.slice Am (totS k ms + 1) cm)
                have hd8 := blk_far'' (blk_far'' hd0 (p := ⟨w.heap.size + 1 + 1, 0, none⟩) HD2.out (.slice A6 ((sampS k xs ms (totS k ms)).length + (tailS xs ms).length) c6)) (p := ⟨w.heap.size + 1 + 1, 1, none⟩) HD2.out (.slice Am (totS k ms + 1) cm)
                have HS8 := Aside0.mk hs8
                have HM8 := Aside0.mk hm8
                have HB8 := Aside0.mk hb8
                have HD8 := Aside0.mk hd8
                have HR8 := Aside0.mk hr2
                have hwl := HBZ.out.size
                clear hs6 hs7 hs8 hm6 hm7 hm8 hb6 hb8 hd0 hd8 hr0 hr1 hr2 hoz ho6 hne6 hO0 hO1
                gi_wp2
                refine ⟨by simp, .inl ⟨_, _, rfl, run_takeDeferred HD8.out, ?_⟩⟩
                have hneo : ∀ {Z : World} {k : Nat} {o : Obj} {base : Nat} {e : TypeId} {size n : Nat} {v : Value} {xs : List Value}, Z.heap[k]? = some o → o.isCells = false → Z.ownsRow base e size v n xs → v.ownBlock = none ∨ v.ownBlock ≠ some k := by
                  intro Z k o base e size n v xs hk hc hv
                  refine .inr fun e' => ?_
                  obtain ⟨cells, h⟩ := own_typed hv k e'
                  rw [hk] at h; cases h; cases hc
                have hs9 := HS8.out.kept (grownBy_putObj' _ D (.deferred none)) (hneo HD8.out rfl HS8.out)
                have hm9 := HM8.out.kept (grownBy_putObj' _ D (.deferred none)) (hneo HD8.out rfl HM8.out)
                have hr9 := blk_grown HR8.out (grownBy_putObj' _ D (.deferred none)) (fun e => by cases e; exact HD2.out rfl)
                have hDw : w.heap.size ≤ D := by have := HB.out.size; omega
                have hb9 := HB8.out.grown (grownBy_putObj' _ D (.deferred none)) HB8.out.size (fun k e => by cases e; exact hDw)
                refine ⟨_, results_cell_row_tmp (p := 6) (u := 7) (ty := 24) rfl _ _ (w.heap.size + 1 + 1) 24 _ (0, 0) _ rfl hr9 Try.underlying24 rfl (by kernel_rfl), ⟨A6, c6, Am, cm, ?_, ?_, ?_⟩, hb9⟩
                · rw [List.length_append]; rfl
                · rw [List.length_append] at *; exact own_weak hs9 hwl
                · exact own_weak hm9 hwl
  case stop =>
    rintro D c pre W _ _ h _
    exact h.elim
end Go.Proofs.Ytoodagohkepcpaa
