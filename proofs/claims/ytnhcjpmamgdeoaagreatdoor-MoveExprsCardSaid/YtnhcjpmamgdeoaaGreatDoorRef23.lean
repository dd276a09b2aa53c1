/-
  THE WALK of the reference: moved, at a set of a value.
-/
import Derived.Test.YtnhcjpmamgdeoaaGreatDoorRef22
namespace Go.Proofs.YtnhcjpmamgdeoaaGreatDoor
open Go.RowKit Go.Sort

set_option maxRecDepth 100000 in
set_option maxHeartbeats 12800000 in
theorem md_set_hit (m : Mv) (vals : Bool) (k : Nat) (e : List Nd) (i : Nat) (x : Nd) (ps : List (List Nd)) (hR : Rcs m vals k e i x ps) (hlk : looksB m x = true) (hs : x.s.toList = m.fr.toList) (h5 : x.op = 5) (hex : ∀ p ∈ ps, ∃ b, Ex (.one b) p) (hvals : vals = true) (hvx : ∀ p ∈ ps, ∀ q, movGo m vals k p = some q → Vx q) (w : World) (A : Option Addr) (c : Nat) (hc : e.length ≤ c) (hcm : c ≤ 9223372036854775807) (hsl : NdSl w w.heap.size A e) :
    Calls Tryz.prog 30 #[.agg #[.int .i64 m.what, .string m.fr, .string m.to_], .slice A e.length c, .int .i64 i, .bool vals] w (MdPost w (movGo m vals (k + 1) (x :: ps.flatten))) := by
  obtain ⟨i0, hi, hz0, hz1, hz2⟩ := info_parts kid_info
  obtain ⟨j0, hj, hy0, hy1, hy2⟩ := info_parts nd_info
  obtain ⟨t0', ht, hs0, hs1, hs2⟩ := info_parts st_info
  have h6 : ¬ x.op = 6 := by omega
  have e6 : (x.op == 6) = false := by simp [h6]
  have e5x : (x.op == 5) = true := by simp [h5]
  obtain ⟨o, ho⟩ : ∃ o, movGo m vals (k + 1) (x :: ps.flatten) = o := ⟨_, rfl⟩
  have HV : Hid (o = match allSome (ps.map (fun p => movGo m vals k (subE (x.op == 6) p))) with | none => none | some qs => some (setOfP qs).1) := by
    show _ = _
    rw [← ho, movGo_any m vals k x hex, e6]
    show _ = match allSome (ps.map (movGo m vals k)) with | none => none | some qs => some (setOfP qs).1
    cases allSome (ps.map (movGo m vals k)) with
    | none => rfl
    | some qs =>
      simp only
      rw [if_neg h6, if_pos ⟨h5, hvals⟩]
  have HVX := Lib.hid hvx
  have HVL := Lib.hid hvals
  have HE5 := Lib.hid e5x
  have HE6 := Lib.hid e6
  clear h5 h6 hex hvals hvx e5x
  rw [ho]
  have hx := hR.at_.get
  have hil : i < e.length := (List.getElem?_eq_some_iff.1 hx).1
  have hlen := hR.at_.len
  have hel := hR.hl
  have HR := Lib.hid hR
  have HL := Lib.hid (fun W => r4_Looks m x W hR.hm)
  have HP := Lib.hid (fun W (hW : RowKit.Below w.heap.size w W) => r3_PartsOf e i x ps A c W hR.at_ hR.hl hR.ok ((hsl.below hW).more hW.size))
  have HSL : Hid ((startsGo (x.op == 6) (i + 1) ps).length = ps.length + 1) := starts_len _ ps _
  have HSG : Hid (∀ j, j < ps.length → (startsGo (x.op == 6) (i + 1) ps)[j]? = some (startE (x.op == 6) i ps j)) := fun j hj => starts_get _ ps _ j hj
  have HIH := Lib.hid (fun j p (hp : ps[j]? = some p) W (hW : RowKit.Below w.heap.size w W) => hR.ih j p hp W A c hc hcm ((hsl.below hW).more hW.size))
  have hpl : ps.length ≤ ps.flatten.length := by
    have hne : ∀ p ∈ ps, p ≠ [] := fun p hp => by obtain ⟨y, r, e, _⟩ := ex_ne (hR.at_.ex p hp); rw [e]; simp
    clear HL HP HSL HSG HIH HR hlen hR HV ho
    try clear HVX
    induction ps with
    | nil => simp
    | cons p r ih =>
      have h2 := ih fun q hq => hne q (by simp [hq])
      have h3 := List.length_pos_iff.2 (hne p (by simp))
      rw [List.flatten_cons, List.length_append, List.length_cons]; omega
  have HES : Hid (∀ W, RowKit.Below w.heap.size w W → NdSl W W.heap.size A e) := fun W hW => (hsl.below hW).more hW.size
  obtain ⟨b, of, rfl, hb, hcs⟩ := hsl.at_ hil
  obtain ⟨d0, d1, d2, d3⟩ := hcs i x hx
  obtain ⟨S, hS⟩ : ∃ S, startsGo (x.op == 6) (i + 1) ps = S := ⟨_, rfl⟩
  rw [hS] at HP HSL HSG
  clear hcs hsl hx hR hS ho
  have dd : decide (e.length ≤ i) = false := by simp; omega
  obtain ⟨w0, hw0e⟩ : ∃ w0, (w.alloc (.cells #[.int .i64 m.what, .string m.fr, .string m.to_] 23)).alloc (.cells #[.int .i64 x.op, .int .i64 x.n, .string x.s, .string x.t] 40) = w0 := ⟨_, rfl⟩
  have hw0 : RowKit.Below w.heap.size w w0 := by rw [← hw0e]; (repeat (first | assumption | exact Below.refl _ _ | apply Below.drew | apply below_drewN | (refine Below.alloc ?_ (by first | exact Nat.le_refl _ | omega | (simp; done) | (simp; omega)) _)))
  have hz0' : w.heap.size + 2 = w0.heap.size := by rw [← hw0e]; simp
  have HM0 : Hid (MCap m w.heap.size w0) := by rw [← hw0e]; exact (MCap.new m w).later (by (repeat (first | assumption | exact Below.refl _ _ | apply Below.drew | apply below_drewN | (refine Below.alloc ?_ (by first | exact Nat.le_refl _ | omega | (simp; done) | (simp; omega)) _))))
  have HX0 : Hid (Blk w0 (w.heap.size + 1) 40 #[.int .i64 x.op, .int .i64 x.n, .string x.s, .string x.t]) := by
    have := Blk.new (w.alloc (.cells #[.int .i64 m.what, .string m.fr, .string m.to_] 23)) 40 #[.int .i64 x.op, .int .i64 x.n, .string x.s, .string x.t]
    rw [World.size_alloc, hw0e] at this; exact this
  have HZ0 := Lib.hid hz0'
  have HW0 := Lib.hid hw0e
  obtain ⟨y, hyr⟩ : ∃ y, ren m x = y := ⟨_, rfl⟩
  have HYR := Lib.hid hyr
  have HYR0 := Lib.hid hyr
  have hw01 : w.heap.size + 1 < w0.heap.size := by omega
  clear hz0' hw0e hyr
  have es : (x.s.toList == m.fr.toList) = true := by simp [hs]
  have HY : Hid (y = ⟨x.op, x.n, m.to_, x.t⟩) := by show _ = _; rw [← HYR.out]; unfold ren; rw [if_pos ⟨hlk, hs⟩]
  rw [hlk] at HL
  clear hlk hs
  go_enter Tryz.func30, Tryz.ntmps30
  go_wp2_with fail
  rw [HW0.out]
  refine (HL.out _).mono ?_
  rintro r w1 ⟨rfl, hb1⟩
  have HM1 := Lib.hid (HM0.out.later hb1)
  have HX1 := Lib.hid (HX0.out.below hb1 hw01)
  have hw1 : RowKit.Below w.heap.size w w1 := hw0.trans (hb1.mono hw0.size)
  have hw11 : w.heap.size + 1 < w1.heap.size := by have := hb1.size; omega
  have g0 := HM1.out.c0
  have g1 := HM1.out.c1
  have g2 := HM1.out.c2
  have u0 := HX1.out.cell 0
  have u1 := HX1.out.cell 1
  have u2 := HX1.out.cell 2
  have u3 := HX1.out.cell 3
  have uz := HX1.out.frozen 2
  clear hb1
  go_wp2_with fail
  have HXa : Hid (Blk (w1.setCell ⟨w.heap.size + 1, 2, none⟩ (.string m.to_)) (w.heap.size + 1) 40 #[.int .i64 x.op, .int .i64 x.n, .string m.to_, .string x.t]) := HX1.out.set 2 _
  have hwa : RowKit.Below w.heap.size w (w1.setCell ⟨w.heap.size + 1, 2, none⟩ (.string m.to_)) := hw1.setCell (by show w.heap.size ≤ w.heap.size + 1; omega) _
  have HMa : Hid (MCap m w.heap.size (w1.setCell ⟨w.heap.size + 1, 2, none⟩ (.string m.to_))) := ⟨by rw [World.cell?_setCell_other _ _ _ _ (by simp)]; exact g0, by rw [World.cell?_setCell_other _ _ _ _ (by simp)]; exact g1, by rw [World.cell?_setCell_other _ _ _ _ (by simp)]; exact g2, by simp; omega⟩
  have hwa1 : w.heap.size + 1 < (w1.setCell ⟨w.heap.size + 1, 2, none⟩ (.string m.to_)).heap.size := by simp; omega
  have HYa : Hid (Blk (w1.setCell ⟨w.heap.size + 1, 2, none⟩ (.string m.to_)) (w.heap.size + 1) 40 #[.int .i64 y.op, .int .i64 y.n, .string y.s, .string y.t]) := by rw [HY.out]; exact HXa.out
  generalize w1.setCell ⟨w.heap.size + 1, 2, none⟩ (.string m.to_) = wa at *
  clear g0 g1 g2 u0 u1 u2 u3 uz HM1 HX1 HM0 HX0 hw1 hw11
  refine (HP.out _ hwa).mono ?_
  rintro r w2 ⟨PA, pc, rfl, hp1, hp2, hp3, hb2⟩
  rw [HSL.out] at hp1 ⊢
  have hw2 : RowKit.Below w.heap.size w w2 := hwa.trans (hb2.mono hwa.size)
  obtain ⟨pb, po, hPA, hpb, -⟩ := hp3.at_ (i := 0) (by rw [HSL.out]; omega)
  subst hPA
  have HY2 := Lib.hid (HYa.out.below hb2 hwa1)
  have HM2 := Lib.hid (HMa.out.later hb2)
  have HMB : Hid (MdBox m y w.heap.size pb po S w2) := ⟨HM2.out.c0, HM2.out.c1, HM2.out.c2, HY2.out.cell 0, HY2.out.cell 1, HY2.out.cell 2, HY2.out.cell 3, fun j z hz => by
    obtain ⟨b', o', h1, _, h2⟩ := inSl_at hp3 hz
    injection h1 with h1
    injection h1 with h1 h3
    subst h1 h3
    exact h2⟩
  have hw21 : w.heap.size + 1 < w2.heap.size := by have := hb2.size; omega
  clear hp3 hb2 HY2 HM2 HYa HMa hwa hwa1 HY HYR HP HL d0 d1 d2 d3
  go_wp2_with fail
  go_loopw [12, 13, 14] (fun pv nv iv wr => ∃ (j : Nat) (ms : List NsM) (ss : List ByteArray), iv = .int .i64 j ∧ j ≤ ps.length ∧ ms.length ≤ 199 ∧ ss.length ≤ 199 ∧ Hid (allSome ((ps.take j).map (fun p => movGo m vals k (subE (x.op == 6) p))) = some (ms.map NsM.e)) ∧ Hid (ss.length = j ∧ ∀ t, t < j → ss[t]? = some (nmV m e (startE (x.op == 6) i ps t))) ∧ Hid (Rows2 w2.heap.size pv nv ms ss wr) ∧ RowKit.Below w2.heap.size w2 wr) (fun _ _ iv => fun _ => ps.length - (intOf iv).toNat)
  case atStart => exact ⟨0, [], [], rfl, by omega, by simp, by simp, rfl, ⟨rfl, fun t ht => by omega⟩, ⟨World.ownsRow_nil _ _ _ _, World.ownsRow_nil _ _ _ _, (by intro b hb; cases hb), by simp, by simp⟩, RowKit.Below.refl _ _⟩
  case round =>
    obtain ⟨j, ms, ss, rfl, hj1, hms, hss, HM, HN, HRW, hbr⟩ := hrel
    have hzr := hbr.size
    have hwr : RowKit.Below w.heap.size w wr := hw2.trans (hbr.mono hw2.size)
    have HMr := Lib.hid (HMB.out.later hbr hw21 hpb)
    have hml : Hid (ms.length = j) := by
      show _ = _
      rcases allSome_cases (fun p => movGo m vals k (subE (x.op == 6) p)) (ps.take j) with h | ⟨qs, h, h', _⟩
      · rw [HM.out] at h; cases h
      · rw [HM.out] at h
        injection h with h
        rw [← h] at h'
        rw [List.length_map, List.length_take] at h'
        omega
    have jn : IntKind.i64.wrap (ps.length : Int) = (ps.length : Int) := by rw [IntKind.wrap_i64]; omega
    by_cases hlt : j < ps.length
    · obtain ⟨p, hp⟩ : ∃ p, ps[j]? = some p := ⟨_, List.getElem?_eq_getElem hlt⟩
      have hpn : 0 < p.length := by obtain ⟨y', r, e', _⟩ := ex_ne (HR.out.at_.ex p (List.mem_of_getElem? hp)); rw [e']; simp
      have hfl := flat_take_le ps (j + 1)
      rw [flat_step hp] at hfl
      obtain ⟨s1, hs1'⟩ : ∃ s1, startE (x.op == 6) i ps j = s1 + 1 := ⟨startE (x.op == 6) i ps j - 1, by unfold startE; split <;> omega⟩
      have hs1e : s1 < e.length := by unfold startE at hs1'; split at hs1' <;> omega
      have HSJ := Lib.hid (HSG.out j hlt)
      have q0 := HMr.out.s j _ HSJ.out
      rw [hs1', Int.natCast_add, Int.natCast_one] at q0
      have HC := Lib.hid (HIH.out j p hp)
      rw [hs1'] at HC
      have HC2 : Hid (∀ W, RowKit.Below w.heap.size w W → Calls Tryz.prog 30 #[.agg #[.int .i64 m.what, .string m.fr, .string m.to_], .slice (some ⟨b, of, none⟩) e.length c, .int .i64 ((s1 : Int) + 1), .bool vals] W (MdPost W (movGo m vals k (subE (x.op == 6) p)))) := fun W hW => by
        have := HC.out W hW
        rw [Int.natCast_add, Int.natCast_one] at this
        exact this
      obtain ⟨yy, hyy⟩ : ∃ yy, e[s1]? = some yy := ⟨_, List.getElem?_eq_getElem hs1e⟩
      have HNM : Hid (nmV m e (startE (x.op == 6) i ps j) = if m.what = 1 ∧ yy.s.toList = m.fr.toList then m.to_ else yy.s) := by
        show _ = _
        rw [hs1']
        unfold nmV
        rw [show s1 + 1 - 1 = s1 from rfl, hyy]
      have HYY := Lib.hid hyy
      have HPP := Lib.hid hp
      have m0 := HMr.out.m0
      have m1 := HMr.out.m1
      have m2 := HMr.out.m2
      have qi := run_at_in pb po (ps.length + 1) pc j (by omega)
      have js : IntKind.i64.wrap ((s1 : Int) + 1 - 1) = (s1 : Int) := by rw [show (s1 : Int) + 1 - 1 = s1 from by omega, IntKind.wrap_i64]; omega
      have js2 : IntKind.i64.wrap (s1 : Int) = (s1 : Int) := by rw [IntKind.wrap_i64]; omega
      have hpbr : pb < wr.heap.size := by omega
      have hwlr : w.heap.size < wr.heap.size := by omega
      clear hp hyy HC hs1' hfl HSJ
      go_wp2_with fail
      refine wp_region_hd (S := fun W' => W'.cell? ⟨w.heap.size, 0, none⟩ = some (.int .i64 m.what) ∧ W'.cell? ⟨w.heap.size, 1, none⟩ = some (.string m.fr) ∧ W'.cell? ⟨w.heap.size, 2, none⟩ = some (.string m.to_) ∧ W'.cell? ⟨pb, po + j, none⟩ = some (.int .i64 ((s1 : Int) + 1))) [false, false, false, false, false, false, false, true, false, false, false, false, false] (by kernel_rfl) (by kernel_rfl) (fun _ _ _ _ _ h => h) ⟨m0, m1, m2, q0⟩ (fun hW' => ?_)
      simp only [List.zip_cons_cons, List.zip_nil_left]
      (repeat (first | (refine hd_take (v := ?_) (by rfl) ?_ ?_; rotate_left; (focus (intro W hW; obtain ⟨z0', z1', z2', z3'⟩ := hW; go_simp; try with_reducible rfl)); simp only [Act.put, List.setIfInBounds_toArray, List.set_cons_zero, List.set_cons_succ]) | (refine hd_skip (by rfl) ?_; simp only [Act.put, List.setIfInBounds_toArray, List.set_cons_zero, List.set_cons_succ])))
      refine hd_call (fun K hK => ?_)
      go_simp
      refine (HC2.out _ hwr.drew).mono ?_
      rintro r w3 hpost
      cases hq : movGo m vals k (subE (x.op == 6) p) with
      | none =>
        obtain ⟨rfl, hb3'⟩ := hpost.2 hq
        have hb3 := below_of_drew hb3'
        have HNO : Hid (o = none) := by show _ = _; rw [HV.out, allSome_none _ ps p (List.mem_of_getElem? HPP.out) hq]
        refine hK _ _ ⟨(hb3.cell (p := ⟨w.heap.size, 0, none⟩) hwlr).trans m0, (hb3.cell (p := ⟨w.heap.size, 1, none⟩) hwlr).trans m1, (hb3.cell (p := ⟨w.heap.size, 2, none⟩) hwlr).trans m2, (hb3.cell (p := ⟨pb, po + j, none⟩) hpbr).trans q0⟩ ?_
        have hw3 : RowKit.Below w.heap.size w w3 := hwr.trans (hb3.mono hwr.size)
        clear hK K hpost hb3 hb3' m0 m1 m2 q0 hq
        (repeat (first | (refine hd_take (v := ?_) (by rfl) ?_ ?_; rotate_left; (focus (intro W hW; obtain ⟨z0', z1', z2', z3'⟩ := hW; go_simp; try with_reducible rfl)); simp only [Act.put, List.setIfInBounds_toArray, List.set_cons_zero, List.set_cons_succ]) | (refine hd_skip (by rfl) ?_; simp only [Act.put, List.setIfInBounds_toArray, List.set_cons_zero, List.set_cons_succ])))
        refine hd_nil ?_
        go_wp2_with fail
        go_ret2
        rw [HNO.out]
        exact MdPost.no hw3
      | some q1 =>
        obtain ⟨A3, c3, rfl, hc3, hcm3, hs3, hb3', hn3⟩ := hpost.1 q1 hq
        have hb3 := below_of_drew hb3'
        refine hK _ _ ⟨(hb3.cell (p := ⟨w.heap.size, 0, none⟩) hwlr).trans m0, (hb3.cell (p := ⟨w.heap.size, 1, none⟩) hwlr).trans m1, (hb3.cell (p := ⟨w.heap.size, 2, none⟩) hwlr).trans m2, (hb3.cell (p := ⟨pb, po + j, none⟩) hpbr).trans q0⟩ ?_
        have hw3 : RowKit.Below w2.heap.size w2 w3 := hbr.trans (hb3.mono hzr)
        have hz3 := hw3.size
        have HQ := Lib.hid hq
        have HX3 : Hid (∀ q, (∀ b, q = some b → b < wr.heap.size) → NsOff w3 q ⟨A3, c3, q1⟩) := fun q hq => NsGood.fresh (B := wr.heap.size) ⟨hs3, hc3, hcm3⟩ hn3 hq
        have HR3 := Lib.hid (HRW.out.later hb3)
        have HR4 := Lib.hid (HR3.out.later (by (repeat (first | assumption | exact Below.refl _ _ | apply Below.drew | apply below_drewN | (refine Below.alloc ?_ (by first | exact Nat.le_refl _ | omega | (simp; done) | (simp; omega)) _))) : RowKit.Below w3.heap.size w3 (w3.alloc (.cells #[.slice A3 q1.length c3] 24))))
        have HLP : Hid (∀ b, u12.ownBlock = some b → b < wr.heap.size) := fun b hb => (own_lt HRW.out.p hb).2
        have HLN : Hid (∀ b, u13.ownBlock = some b → b < wr.heap.size) := fun b hb => (own_lt HRW.out.n hb).2
        have HAFT : Hid (∀ (v6 : Value) (w6 : World), w6.ownsRow w2.heap.size 24 1 v6 (ms.length + 1) (flatG NsM.cells ms ++ [.slice A3 q1.length c3]) → (w3.alloc (.cells #[.slice A3 q1.length c3] 24)).grownBy w6 u12.ownBlock → (v6.ownBlock = u12.ownBlock ∨ v6.ownBlock = some (w3.alloc (.cells #[.slice A3 q1.length c3] 24)).heap.size) →
            Hid (Rows2 w2.heap.size v6 u13 (ms ++ [⟨A3, c3, q1⟩]) ss w6) ∧ RowKit.Below w2.heap.size w2 w6 ∧ Hid (w2.heap.size ≤ w6.heap.size) ∧ w6.cell? ⟨w.heap.size, 0, none⟩ = some (.int .i64 m.what) ∧ w6.cell? ⟨w.heap.size, 1, none⟩ = some (.string m.fr) ∧ w6.cell? ⟨w.heap.size, 2, none⟩ = some (.string m.to_) ∧ w6.cell? ⟨pb, po + j, none⟩ = some (.int .i64 ((s1 : Int) + 1)) ∧ w6.cell? ⟨b, of + s1 * 4 + 2, none⟩ = some (.string yy.s)) := fun v6 w6 h1 h2 h3 => by
          have hb6 : RowKit.Below w2.heap.size w2 w6 := (hw3.alloc hz3 _).grown h2 (by simp; omega) (fun q hq => (own_lt HR4.out.p hq).1)
          have hw6 : RowKit.Below w.heap.size w w6 := hw2.trans (hb6.mono hw2.size)
          have hM6 := HMB.out.later hb6 hw21 hpb
          obtain ⟨b', o', hbo, _, hcs⟩ := (HES.out w6 hw6).at_ hs1e
          injection hbo with hbo
          injection hbo with hbo1 hbo2
          subst hbo1 hbo2
          have hq6 := (hb6.cell (p := ⟨pb, po + j, none⟩) hpb).trans ((hbr.cell (p := ⟨pb, po + j, none⟩) hpb).symm.trans q0)
          refine ⟨HR4.out.part (x := ⟨A3, c3, q1⟩) ((HX3.out _ HLP.out).later (by (repeat (first | assumption | exact Below.refl _ _ | apply Below.drew | apply below_drewN | (refine Below.alloc ?_ (by first | exact Nat.le_refl _ | omega | (simp; done) | (simp; omega)) _))))) ((HX3.out _ HLN.out).later (by (repeat (first | assumption | exact Below.refl _ _ | apply Below.drew | apply below_drewN | (refine Below.alloc ?_ (by first | exact Nat.le_refl _ | omega | (simp; done) | (simp; omega)) _))))) h1 h2 h3, hb6, hb6.size, hM6.m0, hM6.m1, hM6.m2, hq6, (hcs s1 yy HYY.out).c2⟩
        have HQA : Hid (allSome ((ps.take (j + 1)).map (fun p => movGo m vals k (subE (x.op == 6) p))) = some ((ms ++ [(⟨A3, c3, q1⟩ : NsM)]).map NsM.e)) := by
          show _ = _
          rw [allSome_snoc (fun p => movGo m vals k (subE (x.op == 6) p)) ps _ j p q1 HM.out HPP.out HQ.out, List.map_append]; rfl
        clear hK K hpost hb3 hb3' m0 m1 m2 q0 hq hs3 hn3 hc3
        (repeat (first | (refine hd_take (v := ?_) (by rfl) ?_ ?_; rotate_left; (focus (intro W hW; obtain ⟨z0', z1', z2', z3'⟩ := hW; go_simp; try with_reducible rfl)); simp only [Act.put, List.setIfInBounds_toArray, List.set_cons_zero, List.set_cons_succ]) | (refine hd_skip (by rfl) ?_; simp only [Act.put, List.setIfInBounds_toArray, List.set_cons_zero, List.set_cons_succ])))
        refine hd_nil ?_
        have hmsl : ms.length < 199 := by have := hml.out; omega
        have hssl : ss.length < 199 := by have := HN.out.1; omega
        by_cases hnm : m.what = 1 ∧ yy.s.toList = m.fr.toList
        · have tw : (m.what == 1) = true := by simp [hnm.1]
          have ty : (yy.s.toList == m.fr.toList) = true := by simp [hnm.2]
          have HNM2 : Hid (nmV m e (startE (x.op == 6) i ps j) = m.to_) := by show _ = _; rw [HNM.out, if_pos hnm]
          clear hnm
          go_wp2_with (first
            | (at_builtin; refine wpList_append_own_at _ rfl (.tmp 66) (.tmp 68) 104 rfl w2.heap.size 24 i0 _ 1 24 Tryz.underlying104 hi hz0 hz1 hz2 rfl (by omega) u12 ms.length (flatG NsM.cells ms) rfl HR4.out.p ⟨w3.heap.size, 0, none⟩ 1 1 [.slice A3 q1.length c3] rfl rfl (cell_one_new _ _ _) (by simp [Value.oneCell']) (by unfold maxLen; omega) (by omega) (by simp; omega) ?_; intro v6 w6 hown6 hgrow6 _ hloc6; obtain ⟨HR6, hb6, HZ6, n0, n1, n2, n3, n4⟩ := HAFT.out v6 w6 hown6 hgrow6 hloc6; clear hown6 hgrow6 hloc6)
            | (at_builtin; refine wpList_append_own_at _ rfl (.tmp 90) (.tmp 92) 105 rfl w2.heap.size 9 t0' _ 1 16 Tryz.underlying105 ht hs0 hs1 hs2 rfl (by omega) u13 ss.length (flatG stC ss) rfl (own_keep HR6.out.n (by (repeat (first | assumption | exact Below.refl _ _ | apply Below.drew | apply below_drewN | (refine Below.alloc ?_ (by first | exact Nat.le_refl _ | omega | (simp; done) | (simp; omega)) _))))) ⟨w6.heap.size, 0, none⟩ 1 1 [.string m.to_] rfl rfl (cell_one_new _ _ _) (by simp [Value.oneCell']) (by unfold maxLen; omega) (by omega) (by have := HZ6.out; simp; omega) ?_; intro v7 w7 hown7 hgrow7 _ hloc7))
          have HR7 := Lib.hid (Rows2.name (s := m.to_) (HR6.out.later (by (repeat (first | assumption | exact Below.refl _ _ | apply Below.drew | apply below_drewN | (refine Below.alloc ?_ (by first | exact Nat.le_refl _ | omega | (simp; done) | (simp; omega)) _))) : RowKit.Below w6.heap.size w6 (w6.alloc (.cells #[.string m.to_] 9)))) hown7 hgrow7 hloc7)
          have hb7 : RowKit.Below w2.heap.size w2 w7 := (hb6.alloc HZ6.out _).grown hgrow7 (by have := HZ6.out; simp; omega) (fun q hq => (own_lt HR6.out.n hq).1)
          have HN7 : Hid ((ss ++ [m.to_]).length = j + 1 ∧ ∀ t, t < j + 1 → (ss ++ [m.to_])[t]? = some (nmV m e (startE (x.op == 6) i ps t))) := ⟨by rw [List.length_append, HN.out.1]; rfl, fun t ht => by
            rcases Nat.lt_or_ge t j with h | h
            · rw [List.getElem?_append_left (by rw [HN.out.1]; exact h)]; exact HN.out.2 t h
            · have : t = j := by omega
              subst this
              rw [List.getElem?_append_right (by rw [HN.out.1]; exact Nat.le_refl _), HN.out.1, Nat.sub_self, HNM2.out]; rfl⟩
          exact ⟨⟨j + 1, ms ++ [⟨A3, c3, q1⟩], ss ++ [m.to_], by go_num, by omega, by simp; omega, by simp; omega, HQA, HN7, HR7, hb7⟩, by simp [intOf]; omega⟩
        · have HNM2 : Hid (nmV m e (startE (x.op == 6) i ps j) = yy.s) := by show _ = _; rw [HNM.out, if_neg hnm]
          by_cases hw1 : m.what = 1
          · have tw : (m.what == 1) = true := by simp [hw1]
            have ty : (yy.s.toList == m.fr.toList) = false := by
              cases h : (yy.s.toList == m.fr.toList) with
              | false => rfl
              | true => exact absurd ⟨hw1, by simpa using h⟩ hnm
            clear hnm hw1
            go_wp2_with (first
              | (at_builtin; refine wpList_append_own_at _ rfl (.tmp 66) (.tmp 68) 104 rfl w2.heap.size 24 i0 _ 1 24 Tryz.underlying104 hi hz0 hz1 hz2 rfl (by omega) u12 ms.length (flatG NsM.cells ms) rfl HR4.out.p ⟨w3.heap.size, 0, none⟩ 1 1 [.slice A3 q1.length c3] rfl rfl (cell_one_new _ _ _) (by simp [Value.oneCell']) (by unfold maxLen; omega) (by omega) (by simp; omega) ?_; intro v6 w6 hown6 hgrow6 _ hloc6; obtain ⟨HR6, hb6, HZ6, n0, n1, n2, n3, n4⟩ := HAFT.out v6 w6 hown6 hgrow6 hloc6; clear hown6 hgrow6 hloc6)
              | (at_builtin; refine wpList_append_own_at _ rfl (.tmp 90) (.tmp 92) 105 rfl w2.heap.size 9 t0' _ 1 16 Tryz.underlying105 ht hs0 hs1 hs2 rfl (by omega) u13 ss.length (flatG stC ss) rfl (own_keep HR6.out.n (by (repeat (first | assumption | exact Below.refl _ _ | apply Below.drew | apply below_drewN | (refine Below.alloc ?_ (by first | exact Nat.le_refl _ | omega | (simp; done) | (simp; omega)) _))))) ⟨w6.heap.size, 0, none⟩ 1 1 [.string yy.s] rfl rfl (cell_one_new _ _ _) (by simp [Value.oneCell']) (by unfold maxLen; omega) (by omega) (by have := HZ6.out; simp; omega) ?_; intro v7 w7 hown7 hgrow7 _ hloc7))
            have HR7 := Lib.hid (Rows2.name (s := yy.s) (HR6.out.later (by (repeat (first | assumption | exact Below.refl _ _ | apply Below.drew | apply below_drewN | (refine Below.alloc ?_ (by first | exact Nat.le_refl _ | omega | (simp; done) | (simp; omega)) _))) : RowKit.Below w6.heap.size w6 (w6.alloc (.cells #[.string yy.s] 9)))) hown7 hgrow7 hloc7)
            have hb7 : RowKit.Below w2.heap.size w2 w7 := (hb6.alloc HZ6.out _).grown hgrow7 (by have := HZ6.out; simp; omega) (fun q hq => (own_lt HR6.out.n hq).1)
            have HN7 : Hid ((ss ++ [yy.s]).length = j + 1 ∧ ∀ t, t < j + 1 → (ss ++ [yy.s])[t]? = some (nmV m e (startE (x.op == 6) i ps t))) := ⟨by rw [List.length_append, HN.out.1]; rfl, fun t ht => by
              rcases Nat.lt_or_ge t j with h | h
              · rw [List.getElem?_append_left (by rw [HN.out.1]; exact h)]; exact HN.out.2 t h
              · have : t = j := by omega
                subst this
                rw [List.getElem?_append_right (by rw [HN.out.1]; exact Nat.le_refl _), HN.out.1, Nat.sub_self, HNM2.out]; rfl⟩
            exact ⟨⟨j + 1, ms ++ [⟨A3, c3, q1⟩], ss ++ [yy.s], by go_num, by omega, by simp; omega, by simp; omega, HQA, HN7, HR7, hb7⟩, by simp [intOf]; omega⟩
          · have tw : (m.what == 1) = false := by simp [hw1]
            clear hnm hw1
            go_wp2_with (first
              | (at_builtin; refine wpList_append_own_at _ rfl (.tmp 66) (.tmp 68) 104 rfl w2.heap.size 24 i0 _ 1 24 Tryz.underlying104 hi hz0 hz1 hz2 rfl (by omega) u12 ms.length (flatG NsM.cells ms) rfl HR4.out.p ⟨w3.heap.size, 0, none⟩ 1 1 [.slice A3 q1.length c3] rfl rfl (cell_one_new _ _ _) (by simp [Value.oneCell']) (by unfold maxLen; omega) (by omega) (by simp; omega) ?_; intro v6 w6 hown6 hgrow6 _ hloc6; obtain ⟨HR6, hb6, HZ6, n0, n1, n2, n3, n4⟩ := HAFT.out v6 w6 hown6 hgrow6 hloc6; clear hown6 hgrow6 hloc6)
              | (at_builtin; refine wpList_append_own_at _ rfl (.tmp 90) (.tmp 92) 105 rfl w2.heap.size 9 t0' _ 1 16 Tryz.underlying105 ht hs0 hs1 hs2 rfl (by omega) u13 ss.length (flatG stC ss) rfl (own_keep HR6.out.n (by (repeat (first | assumption | exact Below.refl _ _ | apply Below.drew | apply below_drewN | (refine Below.alloc ?_ (by first | exact Nat.le_refl _ | omega | (simp; done) | (simp; omega)) _))))) ⟨w6.heap.size, 0, none⟩ 1 1 [.string yy.s] rfl rfl (cell_one_new _ _ _) (by simp [Value.oneCell']) (by unfold maxLen; omega) (by omega) (by have := HZ6.out; simp; omega) ?_; intro v7 w7 hown7 hgrow7 _ hloc7))
            have HR7 := Lib.hid (Rows2.name (s := yy.s) (HR6.out.later (by (repeat (first | assumption | exact Below.refl _ _ | apply Below.drew | apply below_drewN | (refine Below.alloc ?_ (by first | exact Nat.le_refl _ | omega | (simp; done) | (simp; omega)) _))) : RowKit.Below w6.heap.size w6 (w6.alloc (.cells #[.string yy.s] 9)))) hown7 hgrow7 hloc7)
            have hb7 : RowKit.Below w2.heap.size w2 w7 := (hb6.alloc HZ6.out _).grown hgrow7 (by have := HZ6.out; simp; omega) (fun q hq => (own_lt HR6.out.n hq).1)
            have HN7 : Hid ((ss ++ [yy.s]).length = j + 1 ∧ ∀ t, t < j + 1 → (ss ++ [yy.s])[t]? = some (nmV m e (startE (x.op == 6) i ps t))) := ⟨by rw [List.length_append, HN.out.1]; rfl, fun t ht => by
              rcases Nat.lt_or_ge t j with h | h
              · rw [List.getElem?_append_left (by rw [HN.out.1]; exact h)]; exact HN.out.2 t h
              · have : t = j := by omega
                subst this
                rw [List.getElem?_append_right (by rw [HN.out.1]; exact Nat.le_refl _), HN.out.1, Nat.sub_self, HNM2.out]; rfl⟩
            exact ⟨⟨j + 1, ms ++ [⟨A3, c3, q1⟩], ss ++ [yy.s], by go_num, by omega, by simp; omega, by simp; omega, HQA, HN7, HR7, hb7⟩, by simp [intOf]; omega⟩
    · have hjp : j = ps.length := by omega
      have HM2 : Hid (allSome (ps.map (fun p => movGo m vals k (subE (x.op == 6) p))) = some (ms.map NsM.e)) := by
        have := HM.out
        rw [hjp, List.take_of_length_le (Nat.le_refl _)] at this
        exact this
      have HOV : Hid (o = some (setOfP (ms.map NsM.e)).1) := by
        show _ = _
        rw [HV.out, HM2.out]
      have HPE : Hid (∀ z ∈ ms, Vx z.e) := by
        intro z hz
        rcases allSome_cases (fun p => movGo m vals k (subE (x.op == 6) p)) ps with h | ⟨qs, h, _, h'⟩
        · rw [HM2.out] at h; cases h
        · rw [HM2.out] at h
          injection h with h
          obtain ⟨p, hp, hpq⟩ := h' z.e (by rw [← h]; exact List.mem_map_of_mem hz)
          rw [HE6.out] at hpq
          exact HVX.out p hp _ hpq
      have hcl : (catN ms).length ≤ 199 := by
        have h1 := allSome_len (fun p => movGo m vals k (subE (x.op == 6) p)) _ _ HM2.out (fun p hp q hq => (HR.out.out p hp q hq).2)
        rw [← nss_map' rfl] at h1
        omega
      have HSV : Hid (setV (ms.map NsM.e) = ((setOfP (ms.map NsM.e)).1, 0)) := by
        show _ = _
        have hq : ∀ q ∈ ms.map NsM.e, Vx q := fun q hq => by obtain ⟨y, hy, rfl⟩ := List.mem_map.1 hq; exact HPE.out y hy
        have hl2 : (ms.map NsM.e).flatten.length + 1 ≤ 200 := by rw [← nss_map' rfl]; omega
        obtain ⟨h1, h2, h3⟩ := setOf_ok hq hl2
        rw [h1]
        unfold setV
        rw [if_neg (by omega)]
      obtain ⟨-, Ap, cp, hv, hcp, hcm', hsp⟩ := own_formG ns_ok HRW.out.p
      subst hv
      have HNS : Hid (NssAt wr Ap ms) := ⟨hsp, fun z hz => (HRW.out.op z hz).good⟩
      have HNV : Hid (∀ z ∈ ms, valErr z.e = 0) := fun z hz => (val_iff z.e).2 ⟨by
        have h1 : z.e.length ≤ (ms.map NsM.e).flatten.length := mem_len (List.mem_map_of_mem hz)
        rw [← nss_map' rfl] at h1
        omega, HPE.out z hz⟩
      have HNK : Hid (∀ z ∈ ms, NdOk z.e) := fun z hz => ex_nok (vx_ex (HPE.out z hz))
      have x0 := HMr.out.x0
      have x1 := HMr.out.x1
      have x2 := HMr.out.x2
      have x3 := HMr.out.x3
      have hoy : y.op = x.op := by rw [← HYR0.out]; exact (ren_op m x).1
      have e5 : (y.op == 5) = true := by rw [hoy]; exact HE5.out
      have hwl : w.heap.size + 1 < wr.heap.size := by omega
      have hvt := HVL.out
      subst hvt
      clear hoy hsp HM HN HRW HV hml HM2
      go_wp2_with fail
      have hwo : RowKit.Below wr.heap.size wr (wr.alloc (.cells #[.int .i64 y.op, .int .i64 y.n, .string y.s, .string y.t] 40)) := by (repeat (first | assumption | exact Below.refl _ _ | apply Below.drew | apply below_drewN | (refine Below.alloc ?_ (by first | exact Nat.le_refl _ | omega | (simp; done) | (simp; omega)) _)))
      refine (r1_SetOf ms Ap cp _ (HNS.out.later hwo) HNV.out HNK.out (by omega)).mono ?_
      rintro r w5 ⟨A5, c5, rfl, h51, h52, h53, h54, h55⟩
      have H53 := Lib.hid h53
      have H51 := Lib.hid h51
      have H55 := Lib.hid h55
      have hw5 : RowKit.Below w.heap.size w w5 := (hwr.alloc hwr.size _).trans (h54.mono (by have := hwr.size; simp; omega))
      clear h53 h51 h55 h54
      go_wp2_with fail
      go_ret2
      rw [HOV.out]
      have g1 := H51.out
      have g3 := H53.out
      rw [HSV.out] at g1 g3 ⊢
      exact MdPost.yes rfl g1 h52 g3 hw5 (fun b o h => by have h1 := H55.out b o h; have h2 := hwr.size; rw [World.size_alloc] at h1; omega)
set_option maxRecDepth 100000 in
set_option maxHeartbeats 12800000 in
theorem md_set_miss (m : Mv) (vals : Bool) (k : Nat) (e : List Nd) (i : Nat) (x : Nd) (ps : List (List Nd)) (hR : Rcs m vals k e i x ps) (hlk : looksB m x = true) (hs : ¬ x.s.toList = m.fr.toList) (h5 : x.op = 5) (hex : ∀ p ∈ ps, ∃ b, Ex (.one b) p) (hvals : vals = true) (hvx : ∀ p ∈ ps, ∀ q, movGo m vals k p = some q → Vx q) (w : World) (A : Option Addr) (c : Nat) (hc : e.length ≤ c) (hcm : c ≤ 9223372036854775807) (hsl : NdSl w w.heap.size A e) :
    Calls Tryz.prog 30 #[.agg #[.int .i64 m.what, .string m.fr, .string m.to_], .slice A e.length c, .int .i64 i, .bool vals] w (MdPost w (movGo m vals (k + 1) (x :: ps.flatten))) := by
  obtain ⟨i0, hi, hz0, hz1, hz2⟩ := info_parts kid_info
  obtain ⟨j0, hj, hy0, hy1, hy2⟩ := info_parts nd_info
  obtain ⟨t0', ht, hs0, hs1, hs2⟩ := info_parts st_info
  have h6 : ¬ x.op = 6 := by omega
  have e6 : (x.op == 6) = false := by simp [h6]
  have e5x : (x.op == 5) = true := by simp [h5]
  obtain ⟨o, ho⟩ : ∃ o, movGo m vals (k + 1) (x :: ps.flatten) = o := ⟨_, rfl⟩
  have HV : Hid (o = match allSome (ps.map (fun p => movGo m vals k (subE (x.op == 6) p))) with | none => none | some qs => some (setOfP qs).1) := by
    show _ = _
    rw [← ho, movGo_any m vals k x hex, e6]
    show _ = match allSome (ps.map (movGo m vals k)) with | none => none | some qs => some (setOfP qs).1
    cases allSome (ps.map (movGo m vals k)) with
    | none => rfl
    | some qs =>
      simp only
      rw [if_neg h6, if_pos ⟨h5, hvals⟩]
  have HVX := Lib.hid hvx
  have HVL := Lib.hid hvals
  have HE5 := Lib.hid e5x
  have HE6 := Lib.hid e6
  clear h5 h6 hex hvals hvx e5x
  rw [ho]
  have hx := hR.at_.get
  have hil : i < e.length := (List.getElem?_eq_some_iff.1 hx).1
  have hlen := hR.at_.len
  have hel := hR.hl
  have HR := Lib.hid hR
  have HL := Lib.hid (fun W => r4_Looks m x W hR.hm)
  have HP := Lib.hid (fun W (hW : RowKit.Below w.heap.size w W) => r3_PartsOf e i x ps A c W hR.at_ hR.hl hR.ok ((hsl.below hW).more hW.size))
  have HSL : Hid ((startsGo (x.op == 6) (i + 1) ps).length = ps.length + 1) := starts_len _ ps _
  have HSG : Hid (∀ j, j < ps.length → (startsGo (x.op == 6) (i + 1) ps)[j]? = some (startE (x.op == 6) i ps j)) := fun j hj => starts_get _ ps _ j hj
  have HIH := Lib.hid (fun j p (hp : ps[j]? = some p) W (hW : RowKit.Below w.heap.size w W) => hR.ih j p hp W A c hc hcm ((hsl.below hW).more hW.size))
  have hpl : ps.length ≤ ps.flatten.length := by
    have hne : ∀ p ∈ ps, p ≠ [] := fun p hp => by obtain ⟨y, r, e, _⟩ := ex_ne (hR.at_.ex p hp); rw [e]; simp
    clear HL HP HSL HSG HIH HR hlen hR HV ho
    try clear HVX
    induction ps with
    | nil => simp
    | cons p r ih =>
      have h2 := ih fun q hq => hne q (by simp [hq])
      have h3 := List.length_pos_iff.2 (hne p (by simp))
      rw [List.flatten_cons, List.length_append, List.length_cons]; omega
  have HES : Hid (∀ W, RowKit.Below w.heap.size w W → NdSl W W.heap.size A e) := fun W hW => (hsl.below hW).more hW.size
  obtain ⟨b, of, rfl, hb, hcs⟩ := hsl.at_ hil
  obtain ⟨d0, d1, d2, d3⟩ := hcs i x hx
  obtain ⟨S, hS⟩ : ∃ S, startsGo (x.op == 6) (i + 1) ps = S := ⟨_, rfl⟩
  rw [hS] at HP HSL HSG
  clear hcs hsl hx hR hS ho
  have dd : decide (e.length ≤ i) = false := by simp; omega
  obtain ⟨w0, hw0e⟩ : ∃ w0, (w.alloc (.cells #[.int .i64 m.what, .string m.fr, .string m.to_] 23)).alloc (.cells #[.int .i64 x.op, .int .i64 x.n, .string x.s, .string x.t] 40) = w0 := ⟨_, rfl⟩
  have hw0 : RowKit.Below w.heap.size w w0 := by rw [← hw0e]; (repeat (first | assumption | exact Below.refl _ _ | apply Below.drew | apply below_drewN | (refine Below.alloc ?_ (by first | exact Nat.le_refl _ | omega | (simp; done) | (simp; omega)) _)))
  have hz0' : w.heap.size + 2 = w0.heap.size := by rw [← hw0e]; simp
  have HM0 : Hid (MCap m w.heap.size w0) := by rw [← hw0e]; exact (MCap.new m w).later (by (repeat (first | assumption | exact Below.refl _ _ | apply Below.drew | apply below_drewN | (refine Below.alloc ?_ (by first | exact Nat.le_refl _ | omega | (simp; done) | (simp; omega)) _))))
  have HX0 : Hid (Blk w0 (w.heap.size + 1) 40 #[.int .i64 x.op, .int .i64 x.n, .string x.s, .string x.t]) := by
    have := Blk.new (w.alloc (.cells #[.int .i64 m.what, .string m.fr, .string m.to_] 23)) 40 #[.int .i64 x.op, .int .i64 x.n, .string x.s, .string x.t]
    rw [World.size_alloc, hw0e] at this; exact this
  have HZ0 := Lib.hid hz0'
  have HW0 := Lib.hid hw0e
  obtain ⟨y, hyr⟩ : ∃ y, ren m x = y := ⟨_, rfl⟩
  have HYR := Lib.hid hyr
  have HYR0 := Lib.hid hyr
  have hw01 : w.heap.size + 1 < w0.heap.size := by omega
  clear hz0' hw0e hyr
  have es : (x.s.toList == m.fr.toList) = false := by simp [hs]
  have HY : Hid (y = x) := by show _ = _; rw [← HYR.out]; unfold ren; rw [if_neg (fun h => hs h.2)]
  rw [hlk] at HL
  clear hlk hs
  go_enter Tryz.func30, Tryz.ntmps30
  go_wp2_with fail
  rw [HW0.out]
  refine (HL.out _).mono ?_
  rintro r w1 ⟨rfl, hb1⟩
  have HM1 := Lib.hid (HM0.out.later hb1)
  have HX1 := Lib.hid (HX0.out.below hb1 hw01)
  have hw1 : RowKit.Below w.heap.size w w1 := hw0.trans (hb1.mono hw0.size)
  have hw11 : w.heap.size + 1 < w1.heap.size := by have := hb1.size; omega
  have g0 := HM1.out.c0
  have g1 := HM1.out.c1
  have g2 := HM1.out.c2
  have u0 := HX1.out.cell 0
  have u1 := HX1.out.cell 1
  have u2 := HX1.out.cell 2
  have u3 := HX1.out.cell 3
  have uz := HX1.out.frozen 2
  clear hb1
  go_wp2_with fail
  have hwa := hw1
  have HMa := HM1
  have hwa1 := hw11
  have HYa : Hid (Blk w1 (w.heap.size + 1) 40 #[.int .i64 y.op, .int .i64 y.n, .string y.s, .string y.t]) := by rw [HY.out]; exact HX1.out
  obtain ⟨wa, hwae⟩ : ∃ wa, wa = w1 := ⟨_, rfl⟩
  rw [← hwae] at hwa HMa hwa1 HYa ⊢
  clear hwae
  clear g0 g1 g2 u0 u1 u2 u3 uz HM1 HX1 HM0 HX0 hw1 hw11
  refine (HP.out _ hwa).mono ?_
  rintro r w2 ⟨PA, pc, rfl, hp1, hp2, hp3, hb2⟩
  rw [HSL.out] at hp1 ⊢
  have hw2 : RowKit.Below w.heap.size w w2 := hwa.trans (hb2.mono hwa.size)
  obtain ⟨pb, po, hPA, hpb, -⟩ := hp3.at_ (i := 0) (by rw [HSL.out]; omega)
  subst hPA
  have HY2 := Lib.hid (HYa.out.below hb2 hwa1)
  have HM2 := Lib.hid (HMa.out.later hb2)
  have HMB : Hid (MdBox m y w.heap.size pb po S w2) := ⟨HM2.out.c0, HM2.out.c1, HM2.out.c2, HY2.out.cell 0, HY2.out.cell 1, HY2.out.cell 2, HY2.out.cell 3, fun j z hz => by
    obtain ⟨b', o', h1, _, h2⟩ := inSl_at hp3 hz
    injection h1 with h1
    injection h1 with h1 h3
    subst h1 h3
    exact h2⟩
  have hw21 : w.heap.size + 1 < w2.heap.size := by have := hb2.size; omega
  clear hp3 hb2 HY2 HM2 HYa HMa hwa hwa1 HY HYR HP HL d0 d1 d2 d3
  go_wp2_with fail
  go_loopw [12, 13, 14] (fun pv nv iv wr => ∃ (j : Nat) (ms : List NsM) (ss : List ByteArray), iv = .int .i64 j ∧ j ≤ ps.length ∧ ms.length ≤ 199 ∧ ss.length ≤ 199 ∧ Hid (allSome ((ps.take j).map (fun p => movGo m vals k (subE (x.op == 6) p))) = some (ms.map NsM.e)) ∧ Hid (ss.length = j ∧ ∀ t, t < j → ss[t]? = some (nmV m e (startE (x.op == 6) i ps t))) ∧ Hid (Rows2 w2.heap.size pv nv ms ss wr) ∧ RowKit.Below w2.heap.size w2 wr) (fun _ _ iv => fun _ => ps.length - (intOf iv).toNat)
  case atStart => exact ⟨0, [], [], rfl, by omega, by simp, by simp, rfl, ⟨rfl, fun t ht => by omega⟩, ⟨World.ownsRow_nil _ _ _ _, World.ownsRow_nil _ _ _ _, (by intro b hb; cases hb), by simp, by simp⟩, RowKit.Below.refl _ _⟩
  case round =>
    obtain ⟨j, ms, ss, rfl, hj1, hms, hss, HM, HN, HRW, hbr⟩ := hrel
    have hzr := hbr.size
    have hwr : RowKit.Below w.heap.size w wr := hw2.trans (hbr.mono hw2.size)
    have HMr := Lib.hid (HMB.out.later hbr hw21 hpb)
    have hml : Hid (ms.length = j) := by
      show _ = _
      rcases allSome_cases (fun p => movGo m vals k (subE (x.op == 6) p)) (ps.take j) with h | ⟨qs, h, h', _⟩
      · rw [HM.out] at h; cases h
      · rw [HM.out] at h
        injection h with h
        rw [← h] at h'
        rw [List.length_map, List.length_take] at h'
        omega
    have jn : IntKind.i64.wrap (ps.length : Int) = (ps.length : Int) := by rw [IntKind.wrap_i64]; omega
    by_cases hlt : j < ps.length
    · obtain ⟨p, hp⟩ : ∃ p, ps[j]? = some p := ⟨_, List.getElem?_eq_getElem hlt⟩
      have hpn : 0 < p.length := by obtain ⟨y', r, e', _⟩ := ex_ne (HR.out.at_.ex p (List.mem_of_getElem? hp)); rw [e']; simp
      have hfl := flat_take_le ps (j + 1)
      rw [flat_step hp] at hfl
      obtain ⟨s1, hs1'⟩ : ∃ s1, startE (x.op == 6) i ps j = s1 + 1 := ⟨startE (x.op == 6) i ps j - 1, by unfold startE; split <;> omega⟩
      have hs1e : s1 < e.length := by unfold startE at hs1'; split at hs1' <;> omega
      have HSJ := Lib.hid (HSG.out j hlt)
      have q0 := HMr.out.s j _ HSJ.out
      rw [hs1', Int.natCast_add, Int.natCast_one] at q0
      have HC := Lib.hid (HIH.out j p hp)
      rw [hs1'] at HC
      have HC2 : Hid (∀ W, RowKit.Below w.heap.size w W → Calls Tryz.prog 30 #[.agg #[.int .i64 m.what, .string m.fr, .string m.to_], .slice (some ⟨b, of, none⟩) e.length c, .int .i64 ((s1 : Int) + 1), .bool vals] W (MdPost W (movGo m vals k (subE (x.op == 6) p)))) := fun W hW => by
        have := HC.out W hW
        rw [Int.natCast_add, Int.natCast_one] at this
        exact this
      obtain ⟨yy, hyy⟩ : ∃ yy, e[s1]? = some yy := ⟨_, List.getElem?_eq_getElem hs1e⟩
      have HNM : Hid (nmV m e (startE (x.op == 6) i ps j) = if m.what = 1 ∧ yy.s.toList = m.fr.toList then m.to_ else yy.s) := by
        show _ = _
        rw [hs1']
        unfold nmV
        rw [show s1 + 1 - 1 = s1 from rfl, hyy]
      have HYY := Lib.hid hyy
      have HPP := Lib.hid hp
      have m0 := HMr.out.m0
      have m1 := HMr.out.m1
      have m2 := HMr.out.m2
      have qi := run_at_in pb po (ps.length + 1) pc j (by omega)
      have js : IntKind.i64.wrap ((s1 : Int) + 1 - 1) = (s1 : Int) := by rw [show (s1 : Int) + 1 - 1 = s1 from by omega, IntKind.wrap_i64]; omega
      have js2 : IntKind.i64.wrap (s1 : Int) = (s1 : Int) := by rw [IntKind.wrap_i64]; omega
      have hpbr : pb < wr.heap.size := by omega
      have hwlr : w.heap.size < wr.heap.size := by omega
      clear hp hyy HC hs1' hfl HSJ
      go_wp2_with fail
      refine wp_region_hd (S := fun W' => W'.cell? ⟨w.heap.size, 0, none⟩ = some (.int .i64 m.what) ∧ W'.cell? ⟨w.heap.size, 1, none⟩ = some (.string m.fr) ∧ W'.cell? ⟨w.heap.size, 2, none⟩ = some (.string m.to_) ∧ W'.cell? ⟨pb, po + j, none⟩ = some (.int .i64 ((s1 : Int) + 1))) [false, false, false, false, false, false, false, true, false, false, false, false, false] (by kernel_rfl) (by kernel_rfl) (fun _ _ _ _ _ h => h) ⟨m0, m1, m2, q0⟩ (fun hW' => ?_)
      simp only [List.zip_cons_cons, List.zip_nil_left]
      (repeat (first | (refine hd_take (v := ?_) (by rfl) ?_ ?_; rotate_left; (focus (intro W hW; obtain ⟨z0', z1', z2', z3'⟩ := hW; go_simp; try with_reducible rfl)); simp only [Act.put, List.setIfInBounds_toArray, List.set_cons_zero, List.set_cons_succ]) | (refine hd_skip (by rfl) ?_; simp only [Act.put, List.setIfInBounds_toArray, List.set_cons_zero, List.set_cons_succ])))
      refine hd_call (fun K hK => ?_)
      go_simp
      refine (HC2.out _ hwr.drew).mono ?_
      rintro r w3 hpost
      cases hq : movGo m vals k (subE (x.op == 6) p) with
      | none =>
        obtain ⟨rfl, hb3'⟩ := hpost.2 hq
        have hb3 := below_of_drew hb3'
        have HNO : Hid (o = none) := by show _ = _; rw [HV.out, allSome_none _ ps p (List.mem_of_getElem? HPP.out) hq]
        refine hK _ _ ⟨(hb3.cell (p := ⟨w.heap.size, 0, none⟩) hwlr).trans m0, (hb3.cell (p := ⟨w.heap.size, 1, none⟩) hwlr).trans m1, (hb3.cell (p := ⟨w.heap.size, 2, none⟩) hwlr).trans m2, (hb3.cell (p := ⟨pb, po + j, none⟩) hpbr).trans q0⟩ ?_
        have hw3 : RowKit.Below w.heap.size w w3 := hwr.trans (hb3.mono hwr.size)
        clear hK K hpost hb3 hb3' m0 m1 m2 q0 hq
        (repeat (first | (refine hd_take (v := ?_) (by rfl) ?_ ?_; rotate_left; (focus (intro W hW; obtain ⟨z0', z1', z2', z3'⟩ := hW; go_simp; try with_reducible rfl)); simp only [Act.put, List.setIfInBounds_toArray, List.set_cons_zero, List.set_cons_succ]) | (refine hd_skip (by rfl) ?_; simp only [Act.put, List.setIfInBounds_toArray, List.set_cons_zero, List.set_cons_succ])))
        refine hd_nil ?_
        go_wp2_with fail
        go_ret2
        rw [HNO.out]
        exact MdPost.no hw3
      | some q1 =>
        obtain ⟨A3, c3, rfl, hc3, hcm3, hs3, hb3', hn3⟩ := hpost.1 q1 hq
        have hb3 := below_of_drew hb3'
        refine hK _ _ ⟨(hb3.cell (p := ⟨w.heap.size, 0, none⟩) hwlr).trans m0, (hb3.cell (p := ⟨w.heap.size, 1, none⟩) hwlr).trans m1, (hb3.cell (p := ⟨w.heap.size, 2, none⟩) hwlr).trans m2, (hb3.cell (p := ⟨pb, po + j, none⟩) hpbr).trans q0⟩ ?_
        have hw3 : RowKit.Below w2.heap.size w2 w3 := hbr.trans (hb3.mono hzr)
        have hz3 := hw3.size
        have HQ := Lib.hid hq
        have HX3 : Hid (∀ q, (∀ b, q = some b → b < wr.heap.size) → NsOff w3 q ⟨A3, c3, q1⟩) := fun q hq => NsGood.fresh (B := wr.heap.size) ⟨hs3, hc3, hcm3⟩ hn3 hq
        have HR3 := Lib.hid (HRW.out.later hb3)
        have HR4 := Lib.hid (HR3.out.later (by (repeat (first | assumption | exact Below.refl _ _ | apply Below.drew | apply below_drewN | (refine Below.alloc ?_ (by first | exact Nat.le_refl _ | omega | (simp; done) | (simp; omega)) _))) : RowKit.Below w3.heap.size w3 (w3.alloc (.cells #[.slice A3 q1.length c3] 24))))
        have HLP : Hid (∀ b, u12.ownBlock = some b → b < wr.heap.size) := fun b hb => (own_lt HRW.out.p hb).2
        have HLN : Hid (∀ b, u13.ownBlock = some b → b < wr.heap.size) := fun b hb => (own_lt HRW.out.n hb).2
        have HAFT : Hid (∀ (v6 : Value) (w6 : World), w6.ownsRow w2.heap.size 24 1 v6 (ms.length + 1) (flatG NsM.cells ms ++ [.slice A3 q1.length c3]) → (w3.alloc (.cells #[.slice A3 q1.length c3] 24)).grownBy w6 u12.ownBlock → (v6.ownBlock = u12.ownBlock ∨ v6.ownBlock = some (w3.alloc (.cells #[.slice A3 q1.length c3] 24)).heap.size) →
            Hid (Rows2 w2.heap.size v6 u13 (ms ++ [⟨A3, c3, q1⟩]) ss w6) ∧ RowKit.Below w2.heap.size w2 w6 ∧ Hid (w2.heap.size ≤ w6.heap.size) ∧ w6.cell? ⟨w.heap.size, 0, none⟩ = some (.int .i64 m.what) ∧ w6.cell? ⟨w.heap.size, 1, none⟩ = some (.string m.fr) ∧ w6.cell? ⟨w.heap.size, 2, none⟩ = some (.string m.to_) ∧ w6.cell? ⟨pb, po + j, none⟩ = some (.int .i64 ((s1 : Int) + 1)) ∧ w6.cell? ⟨b, of + s1 * 4 + 2, none⟩ = some (.string yy.s)) := fun v6 w6 h1 h2 h3 => by
          have hb6 : RowKit.Below w2.heap.size w2 w6 := (hw3.alloc hz3 _).grown h2 (by simp; omega) (fun q hq => (own_lt HR4.out.p hq).1)
          have hw6 : RowKit.Below w.heap.size w w6 := hw2.trans (hb6.mono hw2.size)
          have hM6 := HMB.out.later hb6 hw21 hpb
          obtain ⟨b', o', hbo, _, hcs⟩ := (HES.out w6 hw6).at_ hs1e
          injection hbo with hbo
          injection hbo with hbo1 hbo2
          subst hbo1 hbo2
          have hq6 := (hb6.cell (p := ⟨pb, po + j, none⟩) hpb).trans ((hbr.cell (p := ⟨pb, po + j, none⟩) hpb).symm.trans q0)
          refine ⟨HR4.out.part (x := ⟨A3, c3, q1⟩) ((HX3.out _ HLP.out).later (by (repeat (first | assumption | exact Below.refl _ _ | apply Below.drew | apply below_drewN | (refine Below.alloc ?_ (by first | exact Nat.le_refl _ | omega | (simp; done) | (simp; omega)) _))))) ((HX3.out _ HLN.out).later (by (repeat (first | assumption | exact Below.refl _ _ | apply Below.drew | apply below_drewN | (refine Below.alloc ?_ (by first | exact Nat.le_refl _ | omega | (simp; done) | (simp; omega)) _))))) h1 h2 h3, hb6, hb6.size, hM6.m0, hM6.m1, hM6.m2, hq6, (hcs s1 yy HYY.out).c2⟩
        have HQA : Hid (allSome ((ps.take (j + 1)).map (fun p => movGo m vals k (subE (x.op == 6) p))) = some ((ms ++ [(⟨A3, c3, q1⟩ : NsM)]).map NsM.e)) := by
          show _ = _
          rw [allSome_snoc (fun p => movGo m vals k (subE (x.op == 6) p)) ps _ j p q1 HM.out HPP.out HQ.out, List.map_append]; rfl
        clear hK K hpost hb3 hb3' m0 m1 m2 q0 hq hs3 hn3 hc3
        (repeat (first | (refine hd_take (v := ?_) (by rfl) ?_ ?_; rotate_left; (focus (intro W hW; obtain ⟨z0', z1', z2', z3'⟩ := hW; go_simp; try with_reducible rfl)); simp only [Act.put, List.setIfInBounds_toArray, List.set_cons_zero, List.set_cons_succ]) | (refine hd_skip (by rfl) ?_; simp only [Act.put, List.setIfInBounds_toArray, List.set_cons_zero, List.set_cons_succ])))
        refine hd_nil ?_
        have hmsl : ms.length < 199 := by have := hml.out; omega
        have hssl : ss.length < 199 := by have := HN.out.1; omega
        by_cases hnm : m.what = 1 ∧ yy.s.toList = m.fr.toList
        · have tw : (m.what == 1) = true := by simp [hnm.1]
          have ty : (yy.s.toList == m.fr.toList) = true := by simp [hnm.2]
          have HNM2 : Hid (nmV m e (startE (x.op == 6) i ps j) = m.to_) := by show _ = _; rw [HNM.out, if_pos hnm]
          clear hnm
          go_wp2_with (first
            | (at_builtin; refine wpList_append_own_at _ rfl (.tmp 66) (.tmp 68) 104 rfl w2.heap.size 24 i0 _ 1 24 Tryz.underlying104 hi hz0 hz1 hz2 rfl (by omega) u12 ms.length (flatG NsM.cells ms) rfl HR4.out.p ⟨w3.heap.size, 0, none⟩ 1 1 [.slice A3 q1.length c3] rfl rfl (cell_one_new _ _ _) (by simp [Value.oneCell']) (by unfold maxLen; omega) (by omega) (by simp; omega) ?_; intro v6 w6 hown6 hgrow6 _ hloc6; obtain ⟨HR6, hb6, HZ6, n0, n1, n2, n3, n4⟩ := HAFT.out v6 w6 hown6 hgrow6 hloc6; clear hown6 hgrow6 hloc6)
            | (at_builtin; refine wpList_append_own_at _ rfl (.tmp 90) (.tmp 92) 105 rfl w2.heap.size 9 t0' _ 1 16 Tryz.underlying105 ht hs0 hs1 hs2 rfl (by omega) u13 ss.length (flatG stC ss) rfl (own_keep HR6.out.n (by (repeat (first | assumption | exact Below.refl _ _ | apply Below.drew | apply below_drewN | (refine Below.alloc ?_ (by first | exact Nat.le_refl _ | omega | (simp; done) | (simp; omega)) _))))) ⟨w6.heap.size, 0, none⟩ 1 1 [.string m.to_] rfl rfl (cell_one_new _ _ _) (by simp [Value.oneCell']) (by unfold maxLen; omega) (by omega) (by have := HZ6.out; simp; omega) ?_; intro v7 w7 hown7 hgrow7 _ hloc7))
          have HR7 := Lib.hid (Rows2.name (s := m.to_) (HR6.out.later (by (repeat (first | assumption | exact Below.refl _ _ | apply Below.drew | apply below_drewN | (refine Below.alloc ?_ (by first | exact Nat.le_refl _ | omega | (simp; done) | (simp; omega)) _))) : RowKit.Below w6.heap.size w6 (w6.alloc (.cells #[.string m.to_] 9)))) hown7 hgrow7 hloc7)
          have hb7 : RowKit.Below w2.heap.size w2 w7 := (hb6.alloc HZ6.out _).grown hgrow7 (by have := HZ6.out; simp; omega) (fun q hq => (own_lt HR6.out.n hq).1)
          have HN7 : Hid ((ss ++ [m.to_]).length = j + 1 ∧ ∀ t, t < j + 1 → (ss ++ [m.to_])[t]? = some (nmV m e (startE (x.op == 6) i ps t))) := ⟨by rw [List.length_append, HN.out.1]; rfl, fun t ht => by
            rcases Nat.lt_or_ge t j with h | h
            · rw [List.getElem?_append_left (by rw [HN.out.1]; exact h)]; exact HN.out.2 t h
            · have : t = j := by omega
              subst this
              rw [List.getElem?_append_right (by rw [HN.out.1]; exact Nat.le_refl _), HN.out.1, Nat.sub_self, HNM2.out]; rfl⟩
          exact ⟨⟨j + 1, ms ++ [⟨A3, c3, q1⟩], ss ++ [m.to_], by go_num, by omega, by simp; omega, by simp; omega, HQA, HN7, HR7, hb7⟩, by simp [intOf]; omega⟩
        · have HNM2 : Hid (nmV m e (startE (x.op == 6) i ps j) = yy.s) := by show _ = _; rw [HNM.out, if_neg hnm]
          by_cases hw1 : m.what = 1
          · have tw : (m.what == 1) = true := by simp [hw1]
            have ty : (yy.s.toList == m.fr.toList) = false := by
              cases h : (yy.s.toList == m.fr.toList) with
              | false => rfl
              | true => exact absurd ⟨hw1, by simpa using h⟩ hnm
            clear hnm hw1
            go_wp2_with (first
              | (at_builtin; refine wpList_append_own_at _ rfl (.tmp 66) (.tmp 68) 104 rfl w2.heap.size 24 i0 _ 1 24 Tryz.underlying104 hi hz0 hz1 hz2 rfl (by omega) u12 ms.length (flatG NsM.cells ms) rfl HR4.out.p ⟨w3.heap.size, 0, none⟩ 1 1 [.slice A3 q1.length c3] rfl rfl (cell_one_new _ _ _) (by simp [Value.oneCell']) (by unfold maxLen; omega) (by omega) (by simp; omega) ?_; intro v6 w6 hown6 hgrow6 _ hloc6; obtain ⟨HR6, hb6, HZ6, n0, n1, n2, n3, n4⟩ := HAFT.out v6 w6 hown6 hgrow6 hloc6; clear hown6 hgrow6 hloc6)
              | (at_builtin; refine wpList_append_own_at _ rfl (.tmp 90) (.tmp 92) 105 rfl w2.heap.size 9 t0' _ 1 16 Tryz.underlying105 ht hs0 hs1 hs2 rfl (by omega) u13 ss.length (flatG stC ss) rfl (own_keep HR6.out.n (by (repeat (first | assumption | exact Below.refl _ _ | apply Below.drew | apply below_drewN | (refine Below.alloc ?_ (by first | exact Nat.le_refl _ | omega | (simp; done) | (simp; omega)) _))))) ⟨w6.heap.size, 0, none⟩ 1 1 [.string yy.s] rfl rfl (cell_one_new _ _ _) (by simp [Value.oneCell']) (by unfold maxLen; omega) (by omega) (by have := HZ6.out; simp; omega) ?_; intro v7 w7 hown7 hgrow7 _ hloc7))
            have HR7 := Lib.hid (Rows2.name (s := yy.s) (HR6.out.later (by (repeat (first | assumption | exact Below.refl _ _ | apply Below.drew | apply below_drewN | (refine Below.alloc ?_ (by first | exact Nat.le_refl _ | omega | (simp; done) | (simp; omega)) _))) : RowKit.Below w6.heap.size w6 (w6.alloc (.cells #[.string yy.s] 9)))) hown7 hgrow7 hloc7)
            have hb7 : RowKit.Below w2.heap.size w2 w7 := (hb6.alloc HZ6.out _).grown hgrow7 (by have := HZ6.out; simp; omega) (fun q hq => (own_lt HR6.out.n hq).1)
            have HN7 : Hid ((ss ++ [yy.s]).length = j + 1 ∧ ∀ t, t < j + 1 → (ss ++ [yy.s])[t]? = some (nmV m e (startE (x.op == 6) i ps t))) := ⟨by rw [List.length_append, HN.out.1]; rfl, fun t ht => by
              rcases Nat.lt_or_ge t j with h | h
              · rw [List.getElem?_append_left (by rw [HN.out.1]; exact h)]; exact HN.out.2 t h
              · have : t = j := by omega
                subst this
                rw [List.getElem?_append_right (by rw [HN.out.1]; exact Nat.le_refl _), HN.out.1, Nat.sub_self, HNM2.out]; rfl⟩
            exact ⟨⟨j + 1, ms ++ [⟨A3, c3, q1⟩], ss ++ [yy.s], by go_num, by omega, by simp; omega, by simp; omega, HQA, HN7, HR7, hb7⟩, by simp [intOf]; omega⟩
          · have tw : (m.what == 1) = false := by simp [hw1]
            clear hnm hw1
            go_wp2_with (first
              | (at_builtin; refine wpList_append_own_at _ rfl (.tmp 66) (.tmp 68) 104 rfl w2.heap.size 24 i0 _ 1 24 Tryz.underlying104 hi hz0 hz1 hz2 rfl (by omega) u12 ms.length (flatG NsM.cells ms) rfl HR4.out.p ⟨w3.heap.size, 0, none⟩ 1 1 [.slice A3 q1.length c3] rfl rfl (cell_one_new _ _ _) (by simp [Value.oneCell']) (by unfold maxLen; omega) (by omega) (by simp; omega) ?_; intro v6 w6 hown6 hgrow6 _ hloc6; obtain ⟨HR6, hb6, HZ6, n0, n1, n2, n3, n4⟩ := HAFT.out v6 w6 hown6 hgrow6 hloc6; clear hown6 hgrow6 hloc6)
              | (at_builtin; refine wpList_append_own_at _ rfl (.tmp 90) (.tmp 92) 105 rfl w2.heap.size 9 t0' _ 1 16 Tryz.underlying105 ht hs0 hs1 hs2 rfl (by omega) u13 ss.length (flatG stC ss) rfl (own_keep HR6.out.n (by (repeat (first | assumption | exact Below.refl _ _ | apply Below.drew | apply below_drewN | (refine Below.alloc ?_ (by first | exact Nat.le_refl _ | omega | (simp; done) | (simp; omega)) _))))) ⟨w6.heap.size, 0, none⟩ 1 1 [.string yy.s] rfl rfl (cell_one_new _ _ _) (by simp [Value.oneCell']) (by unfold maxLen; omega) (by omega) (by have := HZ6.out; simp; omega) ?_; intro v7 w7 hown7 hgrow7 _ hloc7))
            have HR7 := Lib.hid (Rows2.name (s := yy.s) (HR6.out.later (by (repeat (first | assumption | exact Below.refl _ _ | apply Below.drew | apply below_drewN | (refine Below.alloc ?_ (by first | exact Nat.le_refl _ | omega | (simp; done) | (simp; omega)) _))) : RowKit.Below w6.heap.size w6 (w6.alloc (.cells #[.string yy.s] 9)))) hown7 hgrow7 hloc7)
            have hb7 : RowKit.Below w2.heap.size w2 w7 := (hb6.alloc HZ6.out _).grown hgrow7 (by have := HZ6.out; simp; omega) (fun q hq => (own_lt HR6.out.n hq).1)
            have HN7 : Hid ((ss ++ [yy.s]).length = j + 1 ∧ ∀ t, t < j + 1 → (ss ++ [yy.s])[t]? = some (nmV m e (startE (x.op == 6) i ps t))) := ⟨by rw [List.length_append, HN.out.1]; rfl, fun t ht => by
              rcases Nat.lt_or_ge t j with h | h
              · rw [List.getElem?_append_left (by rw [HN.out.1]; exact h)]; exact HN.out.2 t h
              · have : t = j := by omega
                subst this
                rw [List.getElem?_append_right (by rw [HN.out.1]; exact Nat.le_refl _), HN.out.1, Nat.sub_self, HNM2.out]; rfl⟩
            exact ⟨⟨j + 1, ms ++ [⟨A3, c3, q1⟩], ss ++ [yy.s], by go_num, by omega, by simp; omega, by simp; omega, HQA, HN7, HR7, hb7⟩, by simp [intOf]; omega⟩
    · have hjp : j = ps.length := by omega
      have HM2 : Hid (allSome (ps.map (fun p => movGo m vals k (subE (x.op == 6) p))) = some (ms.map NsM.e)) := by
        have := HM.out
        rw [hjp, List.take_of_length_le (Nat.le_refl _)] at this
        exact this
      have HOV : Hid (o = some (setOfP (ms.map NsM.e)).1) := by
        show _ = _
        rw [HV.out, HM2.out]
      have HPE : Hid (∀ z ∈ ms, Vx z.e) := by
        intro z hz
        rcases allSome_cases (fun p => movGo m vals k (subE (x.op == 6) p)) ps with h | ⟨qs, h, _, h'⟩
        · rw [HM2.out] at h; cases h
        · rw [HM2.out] at h
          injection h with h
          obtain ⟨p, hp, hpq⟩ := h' z.e (by rw [← h]; exact List.mem_map_of_mem hz)
          rw [HE6.out] at hpq
          exact HVX.out p hp _ hpq
      have hcl : (catN ms).length ≤ 199 := by
        have h1 := allSome_len (fun p => movGo m vals k (subE (x.op == 6) p)) _ _ HM2.out (fun p hp q hq => (HR.out.out p hp q hq).2)
        rw [← nss_map' rfl] at h1
        omega
      have HSV : Hid (setV (ms.map NsM.e) = ((setOfP (ms.map NsM.e)).1, 0)) := by
        show _ = _
        have hq : ∀ q ∈ ms.map NsM.e, Vx q := fun q hq => by obtain ⟨y, hy, rfl⟩ := List.mem_map.1 hq; exact HPE.out y hy
        have hl2 : (ms.map NsM.e).flatten.length + 1 ≤ 200 := by rw [← nss_map' rfl]; omega
        obtain ⟨h1, h2, h3⟩ := setOf_ok hq hl2
        rw [h1]
        unfold setV
        rw [if_neg (by omega)]
      obtain ⟨-, Ap, cp, hv, hcp, hcm', hsp⟩ := own_formG ns_ok HRW.out.p
      subst hv
      have HNS : Hid (NssAt wr Ap ms) := ⟨hsp, fun z hz => (HRW.out.op z hz).good⟩
      have HNV : Hid (∀ z ∈ ms, valErr z.e = 0) := fun z hz => (val_iff z.e).2 ⟨by
        have h1 : z.e.length ≤ (ms.map NsM.e).flatten.length := mem_len (List.mem_map_of_mem hz)
        rw [← nss_map' rfl] at h1
        omega, HPE.out z hz⟩
      have HNK : Hid (∀ z ∈ ms, NdOk z.e) := fun z hz => ex_nok (vx_ex (HPE.out z hz))
      have x0 := HMr.out.x0
      have x1 := HMr.out.x1
      have x2 := HMr.out.x2
      have x3 := HMr.out.x3
      have hoy : y.op = x.op := by rw [← HYR0.out]; exact (ren_op m x).1
      have e5 : (y.op == 5) = true := by rw [hoy]; exact HE5.out
      have hwl : w.heap.size + 1 < wr.heap.size := by omega
      have hvt := HVL.out
      subst hvt
      clear hoy hsp HM HN HRW HV hml HM2
      go_wp2_with fail
      have hwo : RowKit.Below wr.heap.size wr (wr.alloc (.cells #[.int .i64 y.op, .int .i64 y.n, .string y.s, .string y.t] 40)) := by (repeat (first | assumption | exact Below.refl _ _ | apply Below.drew | apply below_drewN | (refine Below.alloc ?_ (by first | exact Nat.le_refl _ | omega | (simp; done) | (simp; omega)) _)))
      refine (r1_SetOf ms Ap cp _ (HNS.out.later hwo) HNV.out HNK.out (by omega)).mono ?_
      rintro r w5 ⟨A5, c5, rfl, h51, h52, h53, h54, h55⟩
      have H53 := Lib.hid h53
      have H51 := Lib.hid h51
      have H55 := Lib.hid h55
      have hw5 : RowKit.Below w.heap.size w w5 := (hwr.alloc hwr.size _).trans (h54.mono (by have := hwr.size; simp; omega))
      clear h53 h51 h55 h54
      go_wp2_with fail
      go_ret2
      rw [HOV.out]
      have g1 := H51.out
      have g3 := H53.out
      rw [HSV.out] at g1 g3 ⊢
      exact MdPost.yes rfl g1 h52 g3 hw5 (fun b o h => by have h1 := H55.out b o h; have h2 := hwr.size; rw [World.size_alloc] at h1; omega)
set_option maxRecDepth 100000 in
set_option maxHeartbeats 12800000 in
theorem md_set_no (m : Mv) (vals : Bool) (k : Nat) (e : List Nd) (i : Nat) (x : Nd) (ps : List (List Nd)) (hR : Rcs m vals k e i x ps) (hlk : looksB m x = false) (h5 : x.op = 5) (hex : ∀ p ∈ ps, ∃ b, Ex (.one b) p) (hvals : vals = true) (hvx : ∀ p ∈ ps, ∀ q, movGo m vals k p = some q → Vx q) (w : World) (A : Option Addr) (c : Nat) (hc : e.length ≤ c) (hcm : c ≤ 9223372036854775807) (hsl : NdSl w w.heap.size A e) :
    Calls Tryz.prog 30 #[.agg #[.int .i64 m.what, .string m.fr, .string m.to_], .slice A e.length c, .int .i64 i, .bool vals] w (MdPost w (movGo m vals (k + 1) (x :: ps.flatten))) := by
  obtain ⟨i0, hi, hz0, hz1, hz2⟩ := info_parts kid_info
  obtain ⟨j0, hj, hy0, hy1, hy2⟩ := info_parts nd_info
  obtain ⟨t0', ht, hs0, hs1, hs2⟩ := info_parts st_info
  have h6 : ¬ x.op = 6 := by omega
  have e6 : (x.op == 6) = false := by simp [h6]
  have e5x : (x.op == 5) = true := by simp [h5]
  obtain ⟨o, ho⟩ : ∃ o, movGo m vals (k + 1) (x :: ps.flatten) = o := ⟨_, rfl⟩
  have HV : Hid (o = match allSome (ps.map (fun p => movGo m vals k (subE (x.op == 6) p))) with | none => none | some qs => some (setOfP qs).1) := by
    show _ = _
    rw [← ho, movGo_any m vals k x hex, e6]
    show _ = match allSome (ps.map (movGo m vals k)) with | none => none | some qs => some (setOfP qs).1
    cases allSome (ps.map (movGo m vals k)) with
    | none => rfl
    | some qs =>
      simp only
      rw [if_neg h6, if_pos ⟨h5, hvals⟩]
  have HVX := Lib.hid hvx
  have HVL := Lib.hid hvals
  have HE5 := Lib.hid e5x
  have HE6 := Lib.hid e6
  clear h5 h6 hex hvals hvx e5x
  rw [ho]
  have hx := hR.at_.get
  have hil : i < e.length := (List.getElem?_eq_some_iff.1 hx).1
  have hlen := hR.at_.len
  have hel := hR.hl
  have HR := Lib.hid hR
  have HL := Lib.hid (fun W => r4_Looks m x W hR.hm)
  have HP := Lib.hid (fun W (hW : RowKit.Below w.heap.size w W) => r3_PartsOf e i x ps A c W hR.at_ hR.hl hR.ok ((hsl.below hW).more hW.size))
  have HSL : Hid ((startsGo (x.op == 6) (i + 1) ps).length = ps.length + 1) := starts_len _ ps _
  have HSG : Hid (∀ j, j < ps.length → (startsGo (x.op == 6) (i + 1) ps)[j]? = some (startE (x.op == 6) i ps j)) := fun j hj => starts_get _ ps _ j hj
  have HIH := Lib.hid (fun j p (hp : ps[j]? = some p) W (hW : RowKit.Below w.heap.size w W) => hR.ih j p hp W A c hc hcm ((hsl.below hW).more hW.size))
  have hpl : ps.length ≤ ps.flatten.length := by
    have hne : ∀ p ∈ ps, p ≠ [] := fun p hp => by obtain ⟨y, r, e, _⟩ := ex_ne (hR.at_.ex p hp); rw [e]; simp
    clear HL HP HSL HSG HIH HR hlen hR HV ho
    try clear HVX
    induction ps with
    | nil => simp
    | cons p r ih =>
      have h2 := ih fun q hq => hne q (by simp [hq])
      have h3 := List.length_pos_iff.2 (hne p (by simp))
      rw [List.flatten_cons, List.length_append, List.length_cons]; omega
  have HES : Hid (∀ W, RowKit.Below w.heap.size w W → NdSl W W.heap.size A e) := fun W hW => (hsl.below hW).more hW.size
  obtain ⟨b, of, rfl, hb, hcs⟩ := hsl.at_ hil
  obtain ⟨d0, d1, d2, d3⟩ := hcs i x hx
  obtain ⟨S, hS⟩ : ∃ S, startsGo (x.op == 6) (i + 1) ps = S := ⟨_, rfl⟩
  rw [hS] at HP HSL HSG
  clear hcs hsl hx hR hS ho
  have dd : decide (e.length ≤ i) = false := by simp; omega
  obtain ⟨w0, hw0e⟩ : ∃ w0, (w.alloc (.cells #[.int .i64 m.what, .string m.fr, .string m.to_] 23)).alloc (.cells #[.int .i64 x.op, .int .i64 x.n, .string x.s, .string x.t] 40) = w0 := ⟨_, rfl⟩
  have hw0 : RowKit.Below w.heap.size w w0 := by rw [← hw0e]; (repeat (first | assumption | exact Below.refl _ _ | apply Below.drew | apply below_drewN | (refine Below.alloc ?_ (by first | exact Nat.le_refl _ | omega | (simp; done) | (simp; omega)) _)))
  have hz0' : w.heap.size + 2 = w0.heap.size := by rw [← hw0e]; simp
  have HM0 : Hid (MCap m w.heap.size w0) := by rw [← hw0e]; exact (MCap.new m w).later (by (repeat (first | assumption | exact Below.refl _ _ | apply Below.drew | apply below_drewN | (refine Below.alloc ?_ (by first | exact Nat.le_refl _ | omega | (simp; done) | (simp; omega)) _))))
  have HX0 : Hid (Blk w0 (w.heap.size + 1) 40 #[.int .i64 x.op, .int .i64 x.n, .string x.s, .string x.t]) := by
    have := Blk.new (w.alloc (.cells #[.int .i64 m.what, .string m.fr, .string m.to_] 23)) 40 #[.int .i64 x.op, .int .i64 x.n, .string x.s, .string x.t]
    rw [World.size_alloc, hw0e] at this; exact this
  have HZ0 := Lib.hid hz0'
  have HW0 := Lib.hid hw0e
  obtain ⟨y, hyr⟩ : ∃ y, ren m x = y := ⟨_, rfl⟩
  have HYR := Lib.hid hyr
  have HYR0 := Lib.hid hyr
  have hw01 : w.heap.size + 1 < w0.heap.size := by omega
  clear hz0' hw0e hyr
  have HY : Hid (y = x) := by show _ = _; rw [← HYR.out]; unfold ren; rw [if_neg (fun h => by rw [hlk] at h; cases h.1)]
  rw [hlk] at HL
  clear hlk
  go_enter Tryz.func30, Tryz.ntmps30
  go_wp2_with fail
  rw [HW0.out]
  refine (HL.out _).mono ?_
  rintro r w1 ⟨rfl, hb1⟩
  have HM1 := Lib.hid (HM0.out.later hb1)
  have HX1 := Lib.hid (HX0.out.below hb1 hw01)
  have hw1 : RowKit.Below w.heap.size w w1 := hw0.trans (hb1.mono hw0.size)
  have hw11 : w.heap.size + 1 < w1.heap.size := by have := hb1.size; omega
  have g0 := HM1.out.c0
  have g1 := HM1.out.c1
  have g2 := HM1.out.c2
  have u0 := HX1.out.cell 0
  have u1 := HX1.out.cell 1
  have u2 := HX1.out.cell 2
  have u3 := HX1.out.cell 3
  have uz := HX1.out.frozen 2
  clear hb1
  go_wp2_with fail
  have hwa := hw1
  have HMa := HM1
  have hwa1 := hw11
  have HYa : Hid (Blk w1 (w.heap.size + 1) 40 #[.int .i64 y.op, .int .i64 y.n, .string y.s, .string y.t]) := by rw [HY.out]; exact HX1.out
  obtain ⟨wa, hwae⟩ : ∃ wa, wa = w1 := ⟨_, rfl⟩
  rw [← hwae] at hwa HMa hwa1 HYa ⊢
  clear hwae
  clear g0 g1 g2 u0 u1 u2 u3 uz HM1 HX1 HM0 HX0 hw1 hw11
  refine (HP.out _ hwa).mono ?_
  rintro r w2 ⟨PA, pc, rfl, hp1, hp2, hp3, hb2⟩
  rw [HSL.out] at hp1 ⊢
  have hw2 : RowKit.Below w.heap.size w w2 := hwa.trans (hb2.mono hwa.size)
  obtain ⟨pb, po, hPA, hpb, -⟩ := hp3.at_ (i := 0) (by rw [HSL.out]; omega)
  subst hPA
  have HY2 := Lib.hid (HYa.out.below hb2 hwa1)
  have HM2 := Lib.hid (HMa.out.later hb2)
  have HMB : Hid (MdBox m y w.heap.size pb po S w2) := ⟨HM2.out.c0, HM2.out.c1, HM2.out.c2, HY2.out.cell 0, HY2.out.cell 1, HY2.out.cell 2, HY2.out.cell 3, fun j z hz => by
    obtain ⟨b', o', h1, _, h2⟩ := inSl_at hp3 hz
    injection h1 with h1
    injection h1 with h1 h3
    subst h1 h3
    exact h2⟩
  have hw21 : w.heap.size + 1 < w2.heap.size := by have := hb2.size; omega
  clear hp3 hb2 HY2 HM2 HYa HMa hwa hwa1 HY HYR HP HL d0 d1 d2 d3
  go_wp2_with fail
  go_loopw [12, 13, 14] (fun pv nv iv wr => ∃ (j : Nat) (ms : List NsM) (ss : List ByteArray), iv = .int .i64 j ∧ j ≤ ps.length ∧ ms.length ≤ 199 ∧ ss.length ≤ 199 ∧ Hid (allSome ((ps.take j).map (fun p => movGo m vals k (subE (x.op == 6) p))) = some (ms.map NsM.e)) ∧ Hid (ss.length = j ∧ ∀ t, t < j → ss[t]? = some (nmV m e (startE (x.op == 6) i ps t))) ∧ Hid (Rows2 w2.heap.size pv nv ms ss wr) ∧ RowKit.Below w2.heap.size w2 wr) (fun _ _ iv => fun _ => ps.length - (intOf iv).toNat)
  case atStart => exact ⟨0, [], [], rfl, by omega, by simp, by simp, rfl, ⟨rfl, fun t ht => by omega⟩, ⟨World.ownsRow_nil _ _ _ _, World.ownsRow_nil _ _ _ _, (by intro b hb; cases hb), by simp, by simp⟩, RowKit.Below.refl _ _⟩
  case round =>
    obtain ⟨j, ms, ss, rfl, hj1, hms, hss, HM, HN, HRW, hbr⟩ := hrel
    have hzr := hbr.size
    have hwr : RowKit.Below w.heap.size w wr := hw2.trans (hbr.mono hw2.size)
    have HMr := Lib.hid (HMB.out.later hbr hw21 hpb)
    have hml : Hid (ms.length = j) := by
      show _ = _
      rcases allSome_cases (fun p => movGo m vals k (subE (x.op == 6) p)) (ps.take j) with h | ⟨qs, h, h', _⟩
      · rw [HM.out] at h; cases h
      · rw [HM.out] at h
        injection h with h
        rw [← h] at h'
        rw [List.length_map, List.length_take] at h'
        omega
    have jn : IntKind.i64.wrap (ps.length : Int) = (ps.length : Int) := by rw [IntKind.wrap_i64]; omega
    by_cases hlt : j < ps.length
    · obtain ⟨p, hp⟩ : ∃ p, ps[j]? = some p := ⟨_, List.getElem?_eq_getElem hlt⟩
      have hpn : 0 < p.length := by obtain ⟨y', r, e', _⟩ := ex_ne (HR.out.at_.ex p (List.mem_of_getElem? hp)); rw [e']; simp
      have hfl := flat_take_le ps (j + 1)
      rw [flat_step hp] at hfl
      obtain ⟨s1, hs1'⟩ : ∃ s1, startE (x.op == 6) i ps j = s1 + 1 := ⟨startE (x.op == 6) i ps j - 1, by unfold startE; split <;> omega⟩
      have hs1e : s1 < e.length := by unfold startE at hs1'; split at hs1' <;> omega
      have HSJ := Lib.hid (HSG.out j hlt)
      have q0 := HMr.out.s j _ HSJ.out
      rw [hs1', Int.natCast_add, Int.natCast_one] at q0
      have HC := Lib.hid (HIH.out j p hp)
      rw [hs1'] at HC
      have HC2 : Hid (∀ W, RowKit.Below w.heap.size w W → Calls Tryz.prog 30 #[.agg #[.int .i64 m.what, .string m.fr, .string m.to_], .slice (some ⟨b, of, none⟩) e.length c, .int .i64 ((s1 : Int) + 1), .bool vals] W (MdPost W (movGo m vals k (subE (x.op == 6) p)))) := fun W hW => by
        have := HC.out W hW
        rw [Int.natCast_add, Int.natCast_one] at this
        exact this
      obtain ⟨yy, hyy⟩ : ∃ yy, e[s1]? = some yy := ⟨_, List.getElem?_eq_getElem hs1e⟩
      have HNM : Hid (nmV m e (startE (x.op == 6) i ps j) = if m.what = 1 ∧ yy.s.toList = m.fr.toList then m.to_ else yy.s) := by
        show _ = _
        rw [hs1']
        unfold nmV
        rw [show s1 + 1 - 1 = s1 from rfl, hyy]
      have HYY := Lib.hid hyy
      have HPP := Lib.hid hp
      have m0 := HMr.out.m0
      have m1 := HMr.out.m1
      have m2 := HMr.out.m2
      have qi := run_at_in pb po (ps.length + 1) pc j (by omega)
      have js : IntKind.i64.wrap ((s1 : Int) + 1 - 1) = (s1 : Int) := by rw [show (s1 : Int) + 1 - 1 = s1 from by omega, IntKind.wrap_i64]; omega
      have js2 : IntKind.i64.wrap (s1 : Int) = (s1 : Int) := by rw [IntKind.wrap_i64]; omega
      have hpbr : pb < wr.heap.size := by omega
      have hwlr : w.heap.size < wr.heap.size := by omega
      clear hp hyy HC hs1' hfl HSJ
      go_wp2_with fail
      refine wp_region_hd (S := fun W' => W'.cell? ⟨w.heap.size, 0, none⟩ = some (.int .i64 m.what) ∧ W'.cell? ⟨w.heap.size, 1, none⟩ = some (.string m.fr) ∧ W'.cell? ⟨w.heap.size, 2, none⟩ = some (.string m.to_) ∧ W'.cell? ⟨pb, po + j, none⟩ = some (.int .i64 ((s1 : Int) + 1))) [false, false, false, false, false, false, false, true, false, false, false, false, false] (by kernel_rfl) (by kernel_rfl) (fun _ _ _ _ _ h => h) ⟨m0, m1, m2, q0⟩ (fun hW' => ?_)
      simp only [List.zip_cons_cons, List.zip_nil_left]
      (repeat (first | (refine hd_take (v := ?_) (by rfl) ?_ ?_; rotate_left; (focus (intro W hW; obtain ⟨z0', z1', z2', z3'⟩ := hW; go_simp; try with_reducible rfl)); simp only [Act.put, List.setIfInBounds_toArray, List.set_cons_zero, List.set_cons_succ]) | (refine hd_skip (by rfl) ?_; simp only [Act.put, List.setIfInBounds_toArray, List.set_cons_zero, List.set_cons_succ])))
      refine hd_call (fun K hK => ?_)
      go_simp
      refine (HC2.out _ hwr.drew).mono ?_
      rintro r w3 hpost
      cases hq : movGo m vals k (subE (x.op == 6) p) with
      | none =>
        obtain ⟨rfl, hb3'⟩ := hpost.2 hq
        have hb3 := below_of_drew hb3'
        have HNO : Hid (o = none) := by show _ = _; rw [HV.out, allSome_none _ ps p (List.mem_of_getElem? HPP.out) hq]
        refine hK _ _ ⟨(hb3.cell (p := ⟨w.heap.size, 0, none⟩) hwlr).trans m0, (hb3.cell (p := ⟨w.heap.size, 1, none⟩) hwlr).trans m1, (hb3.cell (p := ⟨w.heap.size, 2, none⟩) hwlr).trans m2, (hb3.cell (p := ⟨pb, po + j, none⟩) hpbr).trans q0⟩ ?_
        have hw3 : RowKit.Below w.heap.size w w3 := hwr.trans (hb3.mono hwr.size)
        clear hK K hpost hb3 hb3' m0 m1 m2 q0 hq
        (repeat (first | (refine hd_take (v := ?_) (by rfl) ?_ ?_; rotate_left; (focus (intro W hW; obtain ⟨z0', z1', z2', z3'⟩ := hW; go_simp; try with_reducible rfl)); simp only [Act.put, List.setIfInBounds_toArray, List.set_cons_zero, List.set_cons_succ]) | (refine hd_skip (by rfl) ?_; simp only [Act.put, List.setIfInBounds_toArray, List.set_cons_zero, List.set_cons_succ])))
        refine hd_nil ?_
        go_wp2_with fail
        go_ret2
        rw [HNO.out]
        exact MdPost.no hw3
      | some q1 =>
        obtain ⟨A3, c3, rfl, hc3, hcm3, hs3, hb3', hn3⟩ := hpost.1 q1 hq
        have hb3 := below_of_drew hb3'
        refine hK _ _ ⟨(hb3.cell (p := ⟨w.heap.size, 0, none⟩) hwlr).trans m0, (hb3.cell (p := ⟨w.heap.size, 1, none⟩) hwlr).trans m1, (hb3.cell (p := ⟨w.heap.size, 2, none⟩) hwlr).trans m2, (hb3.cell (p := ⟨pb, po + j, none⟩) hpbr).trans q0⟩ ?_
        have hw3 : RowKit.Below w2.heap.size w2 w3 := hbr.trans (hb3.mono hzr)
        have hz3 := hw3.size
        have HQ := Lib.hid hq
        have HX3 : Hid (∀ q, (∀ b, q = some b → b < wr.heap.size) → NsOff w3 q ⟨A3, c3, q1⟩) := fun q hq => NsGood.fresh (B := wr.heap.size) ⟨hs3, hc3, hcm3⟩ hn3 hq
        have HR3 := Lib.hid (HRW.out.later hb3)
        have HR4 := Lib.hid (HR3.out.later (by (repeat (first | assumption | exact Below.refl _ _ | apply Below.drew | apply below_drewN | (refine Below.alloc ?_ (by first | exact Nat.le_refl _ | omega | (simp; done) | (simp; omega)) _))) : RowKit.Below w3.heap.size w3 (w3.alloc (.cells #[.slice A3 q1.length c3] 24))))
        have HLP : Hid (∀ b, u12.ownBlock = some b → b < wr.heap.size) := fun b hb => (own_lt HRW.out.p hb).2
        have HLN : Hid (∀ b, u13.ownBlock = some b → b < wr.heap.size) := fun b hb => (own_lt HRW.out.n hb).2
        have HAFT : Hid (∀ (v6 : Value) (w6 : World), w6.ownsRow w2.heap.size 24 1 v6 (ms.length + 1) (flatG NsM.cells ms ++ [.slice A3 q1.length c3]) → (w3.alloc (.cells #[.slice A3 q1.length c3] 24)).grownBy w6 u12.ownBlock → (v6.ownBlock = u12.ownBlock ∨ v6.ownBlock = some (w3.alloc (.cells #[.slice A3 q1.length c3] 24)).heap.size) →
            Hid (Rows2 w2.heap.size v6 u13 (ms ++ [⟨A3, c3, q1⟩]) ss w6) ∧ RowKit.Below w2.heap.size w2 w6 ∧ Hid (w2.heap.size ≤ w6.heap.size) ∧ w6.cell? ⟨w.heap.size, 0, none⟩ = some (.int .i64 m.what) ∧ w6.cell? ⟨w.heap.size, 1, none⟩ = some (.string m.fr) ∧ w6.cell? ⟨w.heap.size, 2, none⟩ = some (.string m.to_) ∧ w6.cell? ⟨pb, po + j, none⟩ = some (.int .i64 ((s1 : Int) + 1)) ∧ w6.cell? ⟨b, of + s1 * 4 + 2, none⟩ = some (.string yy.s)) := fun v6 w6 h1 h2 h3 => by
          have hb6 : RowKit.Below w2.heap.size w2 w6 := (hw3.alloc hz3 _).grown h2 (by simp; omega) (fun q hq => (own_lt HR4.out.p hq).1)
          have hw6 : RowKit.Below w.heap.size w w6 := hw2.trans (hb6.mono hw2.size)
          have hM6 := HMB.out.later hb6 hw21 hpb
          obtain ⟨b', o', hbo, _, hcs⟩ := (HES.out w6 hw6).at_ hs1e
          injection hbo with hbo
          injection hbo with hbo1 hbo2
          subst hbo1 hbo2
          have hq6 := (hb6.cell (p := ⟨pb, po + j, none⟩) hpb).trans ((hbr.cell (p := ⟨pb, po + j, none⟩) hpb).symm.trans q0)
          refine ⟨HR4.out.part (x := ⟨A3, c3, q1⟩) ((HX3.out _ HLP.out).later (by (repeat (first | assumption | exact Below.refl _ _ | apply Below.drew | apply below_drewN | (refine Below.alloc ?_ (by first | exact Nat.le_refl _ | omega | (simp; done) | (simp; omega)) _))))) ((HX3.out _ HLN.out).later (by (repeat (first | assumption | exact Below.refl _ _ | apply Below.drew | apply below_drewN | (refine Below.alloc ?_ (by first | exact Nat.le_refl _ | omega | (simp; done) | (simp; omega)) _))))) h1 h2 h3, hb6, hb6.size, hM6.m0, hM6.m1, hM6.m2, hq6, (hcs s1 yy HYY.out).c2⟩
        have HQA : Hid (allSome ((ps.take (j + 1)).map (fun p => movGo m vals k (subE (x.op == 6) p))) = some ((ms ++ [(⟨A3, c3, q1⟩ : NsM)]).map NsM.e)) := by
          show _ = _
          rw [allSome_snoc (fun p => movGo m vals k (subE (x.op == 6) p)) ps _ j p q1 HM.out HPP.out HQ.out, List.map_append]; rfl
        clear hK K hpost hb3 hb3' m0 m1 m2 q0 hq hs3 hn3 hc3
        (repeat (first | (refine hd_take (v := ?_) (by rfl) ?_ ?_; rotate_left; (focus (intro W hW; obtain ⟨z0', z1', z2', z3'⟩ := hW; go_simp; try with_reducible rfl)); simp only [Act.put, List.setIfInBounds_toArray, List.set_cons_zero, List.set_cons_succ]) | (refine hd_skip (by rfl) ?_; simp only [Act.put, List.setIfInBounds_toArray, List.set_cons_zero, List.set_cons_succ])))
        refine hd_nil ?_
        have hmsl : ms.length < 199 := by have := hml.out; omega
        have hssl : ss.length < 199 := by have := HN.out.1; omega
        by_cases hnm : m.what = 1 ∧ yy.s.toList = m.fr.toList
        · have tw : (m.what == 1) = true := by simp [hnm.1]
          have ty : (yy.s.toList == m.fr.toList) = true := by simp [hnm.2]
          have HNM2 : Hid (nmV m e (startE (x.op == 6) i ps j) = m.to_) := by show _ = _; rw [HNM.out, if_pos hnm]
          clear hnm
          go_wp2_with (first
            | (at_builtin; refine wpList_append_own_at _ rfl (.tmp 66) (.tmp 68) 104 rfl w2.heap.size 24 i0 _ 1 24 Tryz.underlying104 hi hz0 hz1 hz2 rfl (by omega) u12 ms.length (flatG NsM.cells ms) rfl HR4.out.p ⟨w3.heap.size, 0, none⟩ 1 1 [.slice A3 q1.length c3] rfl rfl (cell_one_new _ _ _) (by simp [Value.oneCell']) (by unfold maxLen; omega) (by omega) (by simp; omega) ?_; intro v6 w6 hown6 hgrow6 _ hloc6; obtain ⟨HR6, hb6, HZ6, n0, n1, n2, n3, n4⟩ := HAFT.out v6 w6 hown6 hgrow6 hloc6; clear hown6 hgrow6 hloc6)
            | (at_builtin; refine wpList_append_own_at _ rfl (.tmp 90) (.tmp 92) 105 rfl w2.heap.size 9 t0' _ 1 16 Tryz.underlying105 ht hs0 hs1 hs2 rfl (by omega) u13 ss.length (flatG stC ss) rfl (own_keep HR6.out.n (by (repeat (first | assumption | exact Below.refl _ _ | apply Below.drew | apply below_drewN | (refine Below.alloc ?_ (by first | exact Nat.le_refl _ | omega | (simp; done) | (simp; omega)) _))))) ⟨w6.heap.size, 0, none⟩ 1 1 [.string m.to_] rfl rfl (cell_one_new _ _ _) (by simp [Value.oneCell']) (by unfold maxLen; omega) (by omega) (by have := HZ6.out; simp; omega) ?_; intro v7 w7 hown7 hgrow7 _ hloc7))
          have HR7 := Lib.hid (Rows2.name (s := m.to_) (HR6.out.later (by (repeat (first | assumption | exact Below.refl _ _ | apply Below.drew | apply below_drewN | (refine Below.alloc ?_ (by first | exact Nat.le_refl _ | omega | (simp; done) | (simp; omega)) _))) : RowKit.Below w6.heap.size w6 (w6.alloc (.cells #[.string m.to_] 9)))) hown7 hgrow7 hloc7)
          have hb7 : RowKit.Below w2.heap.size w2 w7 := (hb6.alloc HZ6.out _).grown hgrow7 (by have := HZ6.out; simp; omega) (fun q hq => (own_lt HR6.out.n hq).1)
          have HN7 : Hid ((ss ++ [m.to_]).length = j + 1 ∧ ∀ t, t < j + 1 → (ss ++ [m.to_])[t]? = some (nmV m e (startE (x.op == 6) i ps t))) := ⟨by rw [List.length_append, HN.out.1]; rfl, fun t ht => by
            rcases Nat.lt_or_ge t j with h | h
            · rw [List.getElem?_append_left (by rw [HN.out.1]; exact h)]; exact HN.out.2 t h
            · have : t = j := by omega
              subst this
              rw [List.getElem?_append_right (by rw [HN.out.1]; exact Nat.le_refl _), HN.out.1, Nat.sub_self, HNM2.out]; rfl⟩
          exact ⟨⟨j + 1, ms ++ [⟨A3, c3, q1⟩], ss ++ [m.to_], by go_num, by omega, by simp; omega, by simp; omega, HQA, HN7, HR7, hb7⟩, by simp [intOf]; omega⟩
        · have HNM2 : Hid (nmV m e (startE (x.op == 6) i ps j) = yy.s) := by show _ = _; rw [HNM.out, if_neg hnm]
          by_cases hw1 : m.what = 1
          · have tw : (m.what == 1) = true := by simp [hw1]
            have ty : (yy.s.toList == m.fr.toList) = false := by
              cases h : (yy.s.toList == m.fr.toList) with
              | false => rfl
              | true => exact absurd ⟨hw1, by simpa using h⟩ hnm
            clear hnm hw1
            go_wp2_with (first
              | (at_builtin; refine wpList_append_own_at _ rfl (.tmp 66) (.tmp 68) 104 rfl w2.heap.size 24 i0 _ 1 24 Tryz.underlying104 hi hz0 hz1 hz2 rfl (by omega) u12 ms.length (flatG NsM.cells ms) rfl HR4.out.p ⟨w3.heap.size, 0, none⟩ 1 1 [.slice A3 q1.length c3] rfl rfl (cell_one_new _ _ _) (by simp [Value.oneCell']) (by unfold maxLen; omega) (by omega) (by simp; omega) ?_; intro v6 w6 hown6 hgrow6 _ hloc6; obtain ⟨HR6, hb6, HZ6, n0, n1, n2, n3, n4⟩ := HAFT.out v6 w6 hown6 hgrow6 hloc6; clear hown6 hgrow6 hloc6)
              | (at_builtin; refine wpList_append_own_at _ rfl (.tmp 90) (.tmp 92) 105 rfl w2.heap.size 9 t0' _ 1 16 Tryz.underlying105 ht hs0 hs1 hs2 rfl (by omega) u13 ss.length (flatG stC ss) rfl (own_keep HR6.out.n (by (repeat (first | assumption | exact Below.refl _ _ | apply Below.drew | apply below_drewN | (refine Below.alloc ?_ (by first | exact Nat.le_refl _ | omega | (simp; done) | (simp; omega)) _))))) ⟨w6.heap.size, 0, none⟩ 1 1 [.string yy.s] rfl rfl (cell_one_new _ _ _) (by simp [Value.oneCell']) (by unfold maxLen; omega) (by omega) (by have := HZ6.out; simp; omega) ?_; intro v7 w7 hown7 hgrow7 _ hloc7))
            have HR7 := Lib.hid (Rows2.name (s := yy.s) (HR6.out.later (by (repeat (first | assumption | exact Below.refl _ _ | apply Below.drew | apply below_drewN | (refine Below.alloc ?_ (by first | exact Nat.le_refl _ | omega | (simp; done) | (simp; omega)) _))) : RowKit.Below w6.heap.size w6 (w6.alloc (.cells #[.string yy.s] 9)))) hown7 hgrow7 hloc7)
            have hb7 : RowKit.Below w2.heap.size w2 w7 := (hb6.alloc HZ6.out _).grown hgrow7 (by have := HZ6.out; simp; omega) (fun q hq => (own_lt HR6.out.n hq).1)
            have HN7 : Hid ((ss ++ [yy.s]).length = j + 1 ∧ ∀ t, t < j + 1 → (ss ++ [yy.s])[t]? = some (nmV m e (startE (x.op == 6) i ps t))) := ⟨by rw [List.length_append, HN.out.1]; rfl, fun t ht => by
              rcases Nat.lt_or_ge t j with h | h
              · rw [List.getElem?_append_left (by rw [HN.out.1]; exact h)]; exact HN.out.2 t h
              · have : t = j := by omega
                subst this
                rw [List.getElem?_append_right (by rw [HN.out.1]; exact Nat.le_refl _), HN.out.1, Nat.sub_self, HNM2.out]; rfl⟩
            exact ⟨⟨j + 1, ms ++ [⟨A3, c3, q1⟩], ss ++ [yy.s], by go_num, by omega, by simp; omega, by simp; omega, HQA, HN7, HR7, hb7⟩, by simp [intOf]; omega⟩
          · have tw : (m.what == 1) = false := by simp [hw1]
            clear hnm hw1
            go_wp2_with (first
              | (at_builtin; refine wpList_append_own_at _ rfl (.tmp 66) (.tmp 68) 104 rfl w2.heap.size 24 i0 _ 1 24 Tryz.underlying104 hi hz0 hz1 hz2 rfl (by omega) u12 ms.length (flatG NsM.cells ms) rfl HR4.out.p ⟨w3.heap.size, 0, none⟩ 1 1 [.slice A3 q1.length c3] rfl rfl (cell_one_new _ _ _) (by simp [Value.oneCell']) (by unfold maxLen; omega) (by omega) (by simp; omega) ?_; intro v6 w6 hown6 hgrow6 _ hloc6; obtain ⟨HR6, hb6, HZ6, n0, n1, n2, n3, n4⟩ := HAFT.out v6 w6 hown6 hgrow6 hloc6; clear hown6 hgrow6 hloc6)
              | (at_builtin; refine wpList_append_own_at _ rfl (.tmp 90) (.tmp 92) 105 rfl w2.heap.size 9 t0' _ 1 16 Tryz.underlying105 ht hs0 hs1 hs2 rfl (by omega) u13 ss.length (flatG stC ss) rfl (own_keep HR6.out.n (by (repeat (first | assumption | exact Below.refl _ _ | apply Below.drew | apply below_drewN | (refine Below.alloc ?_ (by first | exact Nat.le_refl _ | omega | (simp; done) | (simp; omega)) _))))) ⟨w6.heap.size, 0, none⟩ 1 1 [.string yy.s] rfl rfl (cell_one_new _ _ _) (by simp [Value.oneCell']) (by unfold maxLen; omega) (by omega) (by have := HZ6.out; simp; omega) ?_; intro v7 w7 hown7 hgrow7 _ hloc7))
            have HR7 := Lib.hid (Rows2.name (s := yy.s) (HR6.out.later (by (repeat (first | assumption | exact Below.refl _ _ | apply Below.drew | apply below_drewN | (refine Below.alloc ?_ (by first | exact Nat.le_refl _ | omega | (simp; done) | (simp; omega)) _))) : RowKit.Below w6.heap.size w6 (w6.alloc (.cells #[.string yy.s] 9)))) hown7 hgrow7 hloc7)
            have hb7 : RowKit.Below w2.heap.size w2 w7 := (hb6.alloc HZ6.out _).grown hgrow7 (by have := HZ6.out; simp; omega) (fun q hq => (own_lt HR6.out.n hq).1)
            have HN7 : Hid ((ss ++ [yy.s]).length = j + 1 ∧ ∀ t, t < j + 1 → (ss ++ [yy.s])[t]? = some (nmV m e (startE (x.op == 6) i ps t))) := ⟨by rw [List.length_append, HN.out.1]; rfl, fun t ht => by
              rcases Nat.lt_or_ge t j with h | h
              · rw [List.getElem?_append_left (by rw [HN.out.1]; exact h)]; exact HN.out.2 t h
              · have : t = j := by omega
                subst this
                rw [List.getElem?_append_right (by rw [HN.out.1]; exact Nat.le_refl _), HN.out.1, Nat.sub_self, HNM2.out]; rfl⟩
            exact ⟨⟨j + 1, ms ++ [⟨A3, c3, q1⟩], ss ++ [yy.s], by go_num, by omega, by simp; omega, by simp; omega, HQA, HN7, HR7, hb7⟩, by simp [intOf]; omega⟩
    · have hjp : j = ps.length := by omega
      have HM2 : Hid (allSome (ps.map (fun p => movGo m vals k (subE (x.op == 6) p))) = some (ms.map NsM.e)) := by
        have := HM.out
        rw [hjp, List.take_of_length_le (Nat.le_refl _)] at this
        exact this
      have HOV : Hid (o = some (setOfP (ms.map NsM.e)).1) := by
        show _ = _
        rw [HV.out, HM2.out]
      have HPE : Hid (∀ z ∈ ms, Vx z.e) := by
        intro z hz
        rcases allSome_cases (fun p => movGo m vals k (subE (x.op == 6) p)) ps with h | ⟨qs, h, _, h'⟩
        · rw [HM2.out] at h; cases h
        · rw [HM2.out] at h
          injection h with h
          obtain ⟨p, hp, hpq⟩ := h' z.e (by rw [← h]; exact List.mem_map_of_mem hz)
          rw [HE6.out] at hpq
          exact HVX.out p hp _ hpq
      have hcl : (catN ms).length ≤ 199 := by
        have h1 := allSome_len (fun p => movGo m vals k (subE (x.op == 6) p)) _ _ HM2.out (fun p hp q hq => (HR.out.out p hp q hq).2)
        rw [← nss_map' rfl] at h1
        omega
      have HSV : Hid (setV (ms.map NsM.e) = ((setOfP (ms.map NsM.e)).1, 0)) := by
        show _ = _
        have hq : ∀ q ∈ ms.map NsM.e, Vx q := fun q hq => by obtain ⟨y, hy, rfl⟩ := List.mem_map.1 hq; exact HPE.out y hy
        have hl2 : (ms.map NsM.e).flatten.length + 1 ≤ 200 := by rw [← nss_map' rfl]; omega
        obtain ⟨h1, h2, h3⟩ := setOf_ok hq hl2
        rw [h1]
        unfold setV
        rw [if_neg (by omega)]
      obtain ⟨-, Ap, cp, hv, hcp, hcm', hsp⟩ := own_formG ns_ok HRW.out.p
      subst hv
      have HNS : Hid (NssAt wr Ap ms) := ⟨hsp, fun z hz => (HRW.out.op z hz).good⟩
      have HNV : Hid (∀ z ∈ ms, valErr z.e = 0) := fun z hz => (val_iff z.e).2 ⟨by
        have h1 : z.e.length ≤ (ms.map NsM.e).flatten.length := mem_len (List.mem_map_of_mem hz)
        rw [← nss_map' rfl] at h1
        omega, HPE.out z hz⟩
      have HNK : Hid (∀ z ∈ ms, NdOk z.e) := fun z hz => ex_nok (vx_ex (HPE.out z hz))
      have x0 := HMr.out.x0
      have x1 := HMr.out.x1
      have x2 := HMr.out.x2
      have x3 := HMr.out.x3
      have hoy : y.op = x.op := by rw [← HYR0.out]; exact (ren_op m x).1
      have e5 : (y.op == 5) = true := by rw [hoy]; exact HE5.out
      have hwl : w.heap.size + 1 < wr.heap.size := by omega
      have hvt := HVL.out
      subst hvt
      clear hoy hsp HM HN HRW HV hml HM2
      go_wp2_with fail
      have hwo : RowKit.Below wr.heap.size wr (wr.alloc (.cells #[.int .i64 y.op, .int .i64 y.n, .string y.s, .string y.t] 40)) := by (repeat (first | assumption | exact Below.refl _ _ | apply Below.drew | apply below_drewN | (refine Below.alloc ?_ (by first | exact Nat.le_refl _ | omega | (simp; done) | (simp; omega)) _)))
      refine (r1_SetOf ms Ap cp _ (HNS.out.later hwo) HNV.out HNK.out (by omega)).mono ?_
      rintro r w5 ⟨A5, c5, rfl, h51, h52, h53, h54, h55⟩
      have H53 := Lib.hid h53
      have H51 := Lib.hid h51
      have H55 := Lib.hid h55
      have hw5 : RowKit.Below w.heap.size w w5 := (hwr.alloc hwr.size _).trans (h54.mono (by have := hwr.size; simp; omega))
      clear h53 h51 h55 h54
      go_wp2_with fail
      go_ret2
      rw [HOV.out]
      have g1 := H51.out
      have g3 := H53.out
      rw [HSV.out] at g1 g3 ⊢
      exact MdPost.yes rfl g1 h52 g3 hw5 (fun b o h => by have h1 := H55.out b o h; have h2 := hwr.size; rw [World.size_alloc] at h1; omega)
end Go.Proofs.YtnhcjpmamgdeoaaGreatDoor
