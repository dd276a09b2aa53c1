/-
  THE WALKS: pol.Check.
-/
import Derived.Test.YtbommoefpekalaaGreatDoorPol1
import Derived.Test.YtbommoefpekalaaGreatDoorBase
import Derived.Test.YtbommoefpekalaaGreatDoorIdx
import Derived.Test.YtbommoefpekalaaGreatDoorTree4
import Derived.LoopN
namespace Go.Proofs.YtbommoefpekalaaGreatDoor
open Go.RowKit

/-- A condition, as it stands in memory. -/
structure CdM where
  u : Bool
  A : Option Addr
  c : Nat
  e : List Nd
def CdM.cells (x : CdM) : List Value := [.bool x.u, .slice x.A x.e.length x.c]
def CdM.cd (x : CdM) : Cd := ⟨x.u, x.e⟩
theorem cd_ok : EncOk CdM.cells 2 := ⟨fun _ => rfl, by omega, fun x u hu => by
  simp only [CdM.cells, List.mem_cons, List.not_mem_nil, or_false] at hu
  rcases hu with rfl | rfl <;> rfl⟩
abbrev CdSl := SlG CdM.cells 2
structure CdGood (w : World) (B : Nat) (x : CdM) : Prop where
  sl : NdSl w B x.A x.e
  le : x.e.length ≤ x.c
  max : x.c ≤ 9223372036854775807
  ok : NdOk x.e
/-- Conditions in memory. -/
structure CdsAt (w : World) (B : Nat) (A : Option Addr) (cs : List CdM) : Prop where
  sl : CdSl w B A cs
  good : ∀ x ∈ cs, CdGood w B x
theorem CdGood.below {w w' : World} {B : Nat} {x : CdM} (h : CdGood w B x) (hb : Below B w w') : CdGood w' B x := ⟨h.sl.below hb, h.le, h.max, h.ok⟩
theorem CdGood.more {w : World} {B B' : Nat} {x : CdM} (h : CdGood w B x) (hB : B ≤ B') : CdGood w B' x := ⟨h.sl.more hB, h.le, h.max, h.ok⟩
theorem CdsAt.later {w w' : World} {A : Option Addr} {cs : List CdM} (h : CdsAt w w.heap.size A cs) (hb : Below w.heap.size w w') : CdsAt w' w'.heap.size A cs :=
  ⟨h.sl.later hb, fun x hx => ((h.good x hx).below hb).more hb.size⟩
structure CdAt (w : World) (b o : Nat) (x : CdM) : Prop where
  c0 : w.cell? ⟨b, o, none⟩ = some (.bool x.u)
  c1 : w.cell? ⟨b, o + 1, none⟩ = some (.slice x.A x.e.length x.c)
theorem cdAt {w : World} {b o : Nat} {x : CdM} (h : AtG CdM.cells w b o x) : CdAt w b o x := ⟨h 0 _ rfl, h 1 _ rfl⟩
theorem cdSl_at {w : World} {B : Nat} {A : Option Addr} {xs : List CdM} (h : CdSl w B A xs) {i : Nat} {x : CdM} (hx : xs[i]? = some x) : ∃ b o, A = some ⟨b, o, none⟩ ∧ b < B ∧ CdAt w b (o + i * 2) x := by
  obtain ⟨b, o, h1, h2, h3⟩ := h.at_ (List.getElem?_eq_some_iff.1 hx).1
  exact ⟨b, o, h1, h2, cdAt (h3 i x hx)⟩
/-- What is not too large. -/
def PoZ (p : Po) : Prop := p.name.size ≤ 140737488351232 ∧ ScZ p.who ∧ ScZ p.act ∧ ScZ p.what
theorem cds_bad {cs : List CdM} {k : Nat} {x : CdM} (h : ∀ i y, i < k → cs[i]? = some y → cdErr y.e = 0) (hx : cs[k]? = some x) (hb : ¬ cdErr x.e = 0) : cdsErr (cs.map CdM.cd) = cdErr x.e := by
  induction cs generalizing k with
  | nil => simp at hx
  | cons y r ih =>
    cases k with
    | zero =>
      simp at hx
      subst hx
      show (if cdErr y.e ≠ 0 then cdErr y.e else _) = _
      rw [if_pos hb]
    | succ k =>
      have h0 := h 0 y (by omega) rfl
      show (if cdErr y.e ≠ 0 then cdErr y.e else cdsErr (r.map CdM.cd)) = _
      rw [if_neg (fun hn => hn h0)]
      exact ih (fun i z hi hz => h (i + 1) z (by omega) hz) hx
theorem cds_good {cs : List CdM} (h : ∀ (i : Nat) (y : CdM), cs[i]? = some y → cdErr y.e = 0) : cdsErr (cs.map CdM.cd) = 0 := by
  induction cs with
  | nil => rfl
  | cons y r ih =>
    show (if cdErr y.e ≠ 0 then cdErr y.e else cdsErr (r.map CdM.cd)) = _
    rw [if_neg (fun hn => hn (h 0 y rfl))]
    exact ih (fun i z hz => h (i + 1) z hz)
theorem scope_at0 (a0 a1 a2 a3 a4 a5 a6 a7 a8 a9 a10 a11 : Value) (W : World) : (Instr.index 97 (.agg #[a0, a1, a2, a3, a4, a5, a6, a7, a8, a9, a10, a11]) (.int .i64 0)).run Tryz.prog W = .ok (.agg #[a0, a1, a2, a3]) W := by kernel_rfl
theorem scope_at1 (a0 a1 a2 a3 a4 a5 a6 a7 a8 a9 a10 a11 : Value) (W : World) : (Instr.index 97 (.agg #[a0, a1, a2, a3, a4, a5, a6, a7, a8, a9, a10, a11]) (.int .i64 1)).run Tryz.prog W = .ok (.agg #[a4, a5, a6, a7]) W := by kernel_rfl
theorem scope_at2 (a0 a1 a2 a3 a4 a5 a6 a7 a8 a9 a10 a11 : Value) (W : World) : (Instr.index 97 (.agg #[a0, a1, a2, a3, a4, a5, a6, a7, a8, a9, a10, a11]) (.int .i64 2)).run Tryz.prog W = .ok (.agg #[a8, a9, a10, a11]) W := by kernel_rfl
set_option maxRecDepth 100000 in
set_option maxHeartbeats 6400000 in
theorem pol_Check (p : Po) (cs : List CdM) (A : Option Addr) (c : Nat) (w : World) (hp : p.conds = cs.map CdM.cd) (hz : PoZ p) (hc : CdsAt w w.heap.size A cs) (hl : cs.length ≤ 9223372036854775807) :
    Calls Tryz.prog 21 #[.agg #[.string p.name, .bool p.forbid, .int .i64 p.who.op, .string p.who.ty, .string p.who.uid.ty, .string p.who.uid.id, .int .i64 p.act.op, .string p.act.ty, .string p.act.uid.ty, .string p.act.uid.id, .int .i64 p.what.op, .string p.what.ty, .string p.what.uid.ty, .string p.what.uid.id, .slice A cs.length c]] w fun e w' => e = .returned (errV (polErr p)) ∧ Below w.heap.size w w' := by
  obtain ⟨q, hq⟩ : ∃ q, polErr p = q := ⟨_, rfl⟩
  rw [hq]
  have HQ := Lib.hid hq
  have HP := Lib.hid hp
  have HC := Lib.hid hc
  have HN := Lib.hid (fun W => name_Check p.name W hz.1)
  have HS0 := Lib.hid (fun W => pol_scope p.who true hz.2.1 W)
  have HS1 := Lib.hid (fun W => pol_scope p.act false hz.2.2.1 W)
  have HS2 := Lib.hid (fun W => pol_scope p.what true hz.2.2.2 W)
  have i0 := scope_at0
  have i1 := scope_at1
  have i2 := scope_at2
  clear hq hp hc hz
  by_cases hn : nameErr p.name.toList = 0
  · have tn : (nameErr p.name.toList != 0) = false := by simp [hn]
    go_enter Tryz.func21, Tryz.ntmps21
    go_wp2_with fail
    refine (HN.out _).mono ?_
    rintro e w1 ⟨rfl, hb1⟩
    obtain ⟨hcc, hff⟩ := bcell hb1
    have hlt1 : w.heap.size < w1.heap.size := by have := hb1.size; simp at this; omega
    have hb0 : Below w.heap.size w w1 := ((Below.refl _ _).alloc (Nat.le_refl _) _).trans (hb1.mono (by simp))
    clear hb1
    have hw1 : Below w.heap.size w w1 := hb0
    have d1 : w1.cell? ⟨w.heap.size, 14, none⟩ = some (.slice A cs.length c) := (hcc w.heap.size 14 (by simp)).trans (by rw [World.cell?_alloc_new]; rfl)
    go_wp2_with fail
    refine wp_loop_rounds 4 ?_
    clear hcc hff
    rw [rounds_succ]
    by_cases s0 : scOk p.who true = true
    · have e0 : scV p.who true = 0 := by rw [scV, if_pos s0]
      rw [e0] at HS0
      clear e0
      go_wp2_with fail
      refine (HS0.out _).mono ?_
      rintro e w2 ⟨rfl, hb2⟩
      have d2 : w2.cell? ⟨w.heap.size, 14, none⟩ = some (.slice A cs.length c) := (hb2.cell (p := ⟨w.heap.size, 14, none⟩) (by simp; omega)).trans ((World.cell?_alloc_lt _ _ ⟨w.heap.size, 14, none⟩ (by first | assumption | omega)).trans d1)
      have hlt2 : w.heap.size < w2.heap.size := by have := hb2.size; simp at this; omega
      have hw2 : Below w.heap.size w w2 := (hw1.alloc hw1.size _).trans (hb2.mono (by simp; have := hw1.size; omega))
      clear hb2 d1
      go_wp2_with fail
      rw [rounds_succ]
      by_cases s1 : scOk p.act false = true
      · have e1 : scV p.act false = 0 := by rw [scV, if_pos s1]
        rw [e1] at HS1
        clear e1
        go_wp2_with fail
        refine (HS1.out _).mono ?_
        rintro e w3 ⟨rfl, hb3⟩
        have d3 : w3.cell? ⟨w.heap.size, 14, none⟩ = some (.slice A cs.length c) := (hb3.cell (p := ⟨w.heap.size, 14, none⟩) (by simp; omega)).trans ((World.cell?_alloc_lt _ _ ⟨w.heap.size, 14, none⟩ (by first | assumption | omega)).trans d2)
        have hlt3 : w.heap.size < w3.heap.size := by have := hb3.size; simp at this; omega
        have hw3 : Below w.heap.size w w3 := (hw2.alloc hw2.size _).trans (hb3.mono (by simp; have := hw2.size; omega))
        clear hb3 d2
        go_wp2_with fail
        rw [rounds_succ]
        by_cases s2 : scOk p.what true = true
        · have e2 : scV p.what true = 0 := by rw [scV, if_pos s2]
          rw [e2] at HS2
          clear e2
          go_wp2_with fail
          refine (HS2.out _).mono ?_
          rintro e w4 ⟨rfl, hb4⟩
          have d4 : w4.cell? ⟨w.heap.size, 14, none⟩ = some (.slice A cs.length c) := (hb4.cell (p := ⟨w.heap.size, 14, none⟩) (by simp; omega)).trans ((World.cell?_alloc_lt _ _ ⟨w.heap.size, 14, none⟩ (by first | assumption | omega)).trans d3)
          have hlt4 : w.heap.size < w4.heap.size := by have := hb4.size; simp at this; omega
          have hw4 : Below w.heap.size w w4 := (hw3.alloc hw3.size _).trans (hb4.mono (by simp; have := hw3.size; omega))
          clear hb4 d3
          go_wp2_with fail
          rw [rounds_succ]
          have HQ2 : Hid (q = if 4 < cs.length then 4 else cdsErr (cs.map CdM.cd)) := by
            show _ = _
            rw [← HQ.out, polErr, if_neg (by simp [hn]), if_neg (by simp [s0, s1, s2]), HP.out, List.length_map]
          clear s0 s1 s2 hn HN HS0 HS1 HS2 HQ HP tn
          by_cases h4 : 4 < cs.length
          · rw [if_pos h4] at HQ2
            have t4 : 4 < (cs.length : Int) := by omega
            go_wp2_with fail
            go_ret
            rw [HQ2.out]
            exact ⟨rfl, hw4⟩
          · rw [if_neg h4] at HQ2
            have t4 : ¬ 4 < (cs.length : Int) := by omega
            have HC4 := Lib.hid (HC.out.later hw4)
            go_wp2_with fail
            go_loopw [45] (fun ii wr => ∃ k : Nat, ii = .int .i64 k ∧ k ≤ cs.length ∧ Hid (∀ i y, i < k → cs[i]? = some y → cdErr y.e = 0) ∧ Below w4.heap.size w4 wr) (fun ii _ => cs.length - (intOf ii).toNat)
            case atStart => exact ⟨0, rfl, by omega, (fun i y hi => absurd hi (by omega)), Below.refl _ _⟩
            case round =>
              obtain ⟨k, rfl, hk, HK, hbr⟩ := hrel
              have hzr := hbr.size
              by_cases hlt : k < cs.length
              · obtain ⟨⟨u, Ax, cx, e⟩, hx⟩ : ∃ x, cs[k]? = some x := ⟨_, List.getElem?_eq_getElem hlt⟩
                have hg := HC4.out.good _ (List.mem_of_getElem? hx)
                obtain ⟨b, o, rfl, hb, ⟨c0, c1⟩⟩ := cdSl_at (HC4.out.sl.below hbr) hx
                have hbw : b < wr.heap.size := Nat.lt_of_lt_of_le hb hzr
                have HX := Lib.hid hx
                have HTC := Lib.hid (fun W (hW : Below w4.heap.size w4 W) => tree_Check e Ax cx W hg.le hg.max hg.ok ((hg.sl.below hW).more hW.size))
                have HG := Lib.hid hg
                clear hx hg
                by_cases ht : treeErr e = 0
                · have tt : (treeErr e != 0) = false := by simp [ht]
                  have HT := Lib.hid ht
                  have hel : e.length ≤ 200 := (tree_len ht).1
                  have HNE := Lib.hid (varNames_ne ht)
                  clear ht
                  go_wp2_with fail
                  refine (HTC.out _ (hbr.alloc hzr _)).mono ?_
                  rintro r w5 ⟨rfl, hb5⟩
                  obtain ⟨hcc, hff⟩ := bcell hb5
                  have hlt5 : wr.heap.size < w5.heap.size := by have := hb5.size; simp at this; omega
                  have hw5 : Below w4.heap.size w4 w5 := (hbr.alloc hzr _).trans (hb5.mono (by simp; omega))
                  have c5 : w5.cell? ⟨wr.heap.size, 1, none⟩ = some (.slice Ax e.length cx) := (hcc wr.heap.size 1 (by simp)).trans (by rw [World.cell?_alloc_new]; rfl)
                  clear hb5 hcc hff
                  go_wp2_with fail
                  go_loopw [58] (fun jj wi => ∃ j : Nat, jj = .int .i64 j ∧ j ≤ e.length ∧ Hid ((e.take j).any slotN = false) ∧ Below w4.heap.size w4 wi) (fun jj _ => e.length - (intOf jj).toNat)
                  case atStart => exact ⟨0, rfl, by omega, rfl, hw5⟩
                  case round =>
                    obtain ⟨j, rfl, hj, HJ, hbi⟩ := hrel
                    have hzi := hbi.size
                    by_cases hlj : j < e.length
                    · obtain ⟨y, hy⟩ : ∃ y, e[j]? = some y := ⟨_, List.getElem?_eq_getElem hlj⟩
                      obtain ⟨bn, on, rfl, hbn, hcs⟩ := (HG.out.sl.below hbi).at_ hlj
                      obtain ⟨f0, f1, f2, f3⟩ := hcs j y hy
                      have hbnw : bn < wr.heap.size := Nat.lt_of_lt_of_le hbn hzi
                      have hstep : (e.take (j + 1)).any slotN = slotN y := by rw [List.take_add_one, hy, List.any_append, HJ.out]; simp
                      have HST := Lib.hid hstep
                      have HY := Lib.hid hy
                      clear hcs hstep
                      by_cases h8 : y.op = 8
                      · have t8 : (y.op == 8) = true := by simp [h8]
                        have hs0 : 0 < y.s.size := by
                          rcases Nat.eq_zero_or_pos y.s.size with h | h
                          · exfalso
                            refine HNE.out (varNames_mem.2 ⟨y, List.mem_of_getElem? hy, t8, ?_⟩)
                            exact List.eq_nil_of_length_eq_zero (by rw [toList_len]; exact h)
                          · exact h
                        have hi0 := run_at_str y.s 0 hs0
                        obtain ⟨l0, hl0⟩ : ∃ r, y.s.toList = y.s[0] :: r := ⟨_, by have := list_drop y.s 0 hs0; rwa [List.drop_zero] at this⟩
                        have HSN : Hid (slotN y = (y.s[0] == 63)) := by show _ = _; unfold slotN slotB; rw [hl0, t8]; simp
                        clear hl0 h8 hy
                        by_cases h63 : y.s[0] = 63
                        · have t63 : ((y.s[0].toNat : Int) == 63) = true := beq_chr h63
                          have hcd : cdErr e = 1 := by
                            rw [cdErr, if_neg (by rw [HT.out]; simp), if_pos]
                            rw [List.any_eq_true]
                            exact ⟨y, List.mem_of_getElem? HY.out, by rw [HSN.out, h63]; rfl⟩
                          have hq : q = 1 := by rw [HQ2.out, cds_bad HK.out HX.out (by show ¬ cdErr e = 0; rw [hcd]; decide)]; exact hcd
                          have HQV := Lib.hid hq
                          clear hcd h63 hq
                          go_wp2_with fail
                          go_ret
                          rw [HQV.out]
                          exact ⟨rfl, hw4.trans (((hbi.alloc hzi _)).mono hw4.size)⟩
                        · have t63 : ((y.s[0].toNat : Int) == 63) = false := bne_chr h63
                          have HJ2 : Hid ((e.take (j + 1)).any slotN = false) := by show _ = _; rw [HST.out, HSN.out]; simpa using h63
                          clear h63
                          go_wp2_with fail
                          exact ⟨⟨j + 1, by go_num, by omega, HJ2, hbi.alloc hzi _⟩, by simp [intOf]; omega⟩
                      · have t8 : (y.op == 8) = false := by simp [h8]
                        have HJ2 : Hid ((e.take (j + 1)).any slotN = false) := by show _ = _; rw [HST.out]; unfold slotN; rw [t8]; rfl
                        clear h8 hy
                        go_wp2_with fail
                        exact ⟨⟨j + 1, by go_num, by omega, HJ2, hbi.alloc hzi _⟩, by simp [intOf]; omega⟩
                    · have hje : j = e.length := by omega
                      have HK2 : Hid (∀ i y, i < k + 1 → cs[i]? = some y → cdErr y.e = 0) := by
                        intro i y hi hy
                        rcases Nat.lt_or_ge i k with h | h
                        · exact HK.out i y h hy
                        · have : i = k := by omega
                          subst this
                          rw [HX.out] at hy
                          injection hy with hy
                          subst hy
                          have := HJ.out
                          rw [hje, List.take_of_length_le (Nat.le_refl _)] at this
                          show cdErr e = 0
                          rw [cdErr, if_neg (by rw [HT.out]; simp), if_neg (by rw [this]; simp)]
                      clear hje
                      go_wp2_with fail
                      exact ⟨⟨k + 1, by go_num, by omega, HK2, hbi⟩, by simp [intOf]; omega⟩
                · have tt : (treeErr e != 0) = true := by simp [ht]
                  have hq : q = treeErr e := by
                    have hcd : cdErr e = treeErr e := by rw [cdErr, if_pos ht]
                    rw [HQ2.out, cds_bad HK.out HX.out (by show ¬ cdErr e = 0; rw [hcd]; exact ht)]; exact hcd
                  have HQV := Lib.hid hq
                  clear ht hq
                  go_wp2_with fail
                  refine (HTC.out _ (hbr.alloc hzr _)).mono ?_
                  rintro r w5 ⟨rfl, hb5⟩
                  have hw5 : Below w4.heap.size w4 w5 := (hbr.alloc hzr _).trans (hb5.mono (by simp; omega))
                  go_wp2_with fail
                  go_ret
                  rw [HQV.out]
                  exact ⟨rfl, hw4.trans (hw5.mono hw4.size)⟩
              · have hq : q = 0 := by
                  rw [HQ2.out]
                  exact cds_good fun i y hy => HK.out i y (by have := (List.getElem?_eq_some_iff.1 hy).1; omega) hy
                have HQV := Lib.hid hq
                clear hq
                go_wp2_with fail
                go_ret
                rw [HQV.out]
                exact ⟨rfl, hw4.trans (hbr.mono hw4.size)⟩
        · have e2 : scV p.what true = 1 := by rw [scV, if_neg s2]
          have hv : q = 1 := by rw [← HQ.out, polErr, if_neg (by simp [hn]), if_pos]; simp [s0, s1, s2]
          rw [e2] at HS2
          have HV := Lib.hid hv
          clear hv e2 s2 hn s0 s1
          go_wp2_with fail
          refine (HS2.out _).mono ?_
          rintro e w4 ⟨rfl, hb4⟩
          have hw4 : Below w.heap.size w w4 := (hw3.alloc hw3.size _).trans (hb4.mono (by simp; have := hw3.size; omega))
          go_wp2_with fail
          go_ret
          rw [HV.out]
          exact ⟨rfl, hw4⟩
      · have e1 : scV p.act false = 1 := by rw [scV, if_neg s1]
        have hv : q = 1 := by rw [← HQ.out, polErr, if_neg (by simp [hn]), if_pos]; simp [s0, s1]
        rw [e1] at HS1
        have HV := Lib.hid hv
        clear hv e1 s1 hn s0
        go_wp2_with fail
        refine (HS1.out _).mono ?_
        rintro e w3 ⟨rfl, hb3⟩
        have hw3 : Below w.heap.size w w3 := (hw2.alloc hw2.size _).trans (hb3.mono (by simp; have := hw2.size; omega))
        go_wp2_with fail
        go_ret
        rw [HV.out]
        exact ⟨rfl, hw3⟩
    · have e0 : scV p.who true = 1 := by rw [scV, if_neg s0]
      have hv : q = 1 := by rw [← HQ.out, polErr, if_neg (by simp [hn]), if_pos]; simp [s0]
      rw [e0] at HS0
      have HV := Lib.hid hv
      clear hv e0 s0 hn
      go_wp2_with fail
      refine (HS0.out _).mono ?_
      rintro e w2 ⟨rfl, hb2⟩
      have hw2 : Below w.heap.size w w2 := (hw1.alloc hw1.size _).trans (hb2.mono (by simp; have := hw1.size; omega))
      go_wp2_with fail
      go_ret
      rw [HV.out]
      exact ⟨rfl, hw2⟩
  · have tn : (nameErr p.name.toList != 0) = true := by simp [hn]
    have hv : q = nameErr p.name.toList := by rw [← HQ.out, polErr, if_pos hn]
    rw [hv]
    clear hn
    go_enter Tryz.func21, Tryz.ntmps21
    go_wp2_with fail
    refine (HN.out _).mono ?_
    rintro e w1 ⟨rfl, hb1⟩
    go_wp2_with fail
    go_ret
    exact ⟨rfl, ((Below.refl _ _).alloc (Nat.le_refl _) _).trans (hb1.mono (by simp))⟩
end Go.Proofs.YtbommoefpekalaaGreatDoor
