/-
 THE WALK: the laws' freshAll.
 PLAIN LAWS: what is moved has no new numbers.
-/
import Derived.Test.YtpheiojmcafolaaGreatDoorSy15
import Derived.Test.YtpheiojmcafolaaGreatDoorSy23
namespace Go.Proofs.YtpheiojmcafolaaGreatDoor
set_option maxRecDepth 100000
open Go.RowKit Go.Sort
def badU (m : Mv) (u : Ud) : Bool := (m.what == 2) && (u.ty.toList == m.to_.toList)
def freshE (m : Mv) (e : En) : Bool := ((freshV m e.at_).2 == 0 && (freshV m e.at_).1) && (!badU m e.u && e.up.all fun p => !badU m p)
def freshA (m : Mv) (es : List En) (q : Rq) : Bool := es.all (freshE m) && (((freshV m q.ctx).2 == 0 && (freshV m q.ctx).1) && !(badU m q.who || (badU m q.act || badU m q.what)))
theorem all_next {α : Type} {f : α → Bool} {ps : List α} {k : Nat} {y : α} (h : ps[k]? = some y) : (ps.take (k + 1)).all f = ((ps.take k).all f && f y) := by
 rw [List.take_add_one, h, List.all_append]; simp
theorem all_not {α : Type} {f : α → Bool} {ps : List α} {k : Nat} {y : α} (h : ps[k]? = some y) (hf : f y = false) : ps.all f = false := by
 rw [Bool.eq_false_iff]; intro hc;rw [List.all_eq_true] at hc;rw [hc y (List.mem_of_getElem? h)] at hf;cases hf
def Mq4 (m : Mv) (g b j : Nat) (v : Value) (w1 W : World) : Prop := W.cell? ⟨g, 0, none⟩ = some (.int .i64 m.what) ∧ W.cell? ⟨g, 1, none⟩ = some (.string m.fr) ∧ W.cell? ⟨g, 2, none⟩ = some (.string m.to_) ∧ W.cell? ⟨b, j, none⟩ = some v ∧ RowKit.Below w1.heap.size w1 W
theorem Mq4.of {m : Mv} {g b j : Nat} {v : Value} {w1 W : World} (h : Blk w1 g 56 #[.int .i64 m.what, .string m.fr, .string m.to_]) (hb : b < w1.heap.size) (hc : w1.cell? ⟨b, j, none⟩ = some v) (hB : RowKit.Below w1.heap.size w1 W) : Mq4 m g b j v w1 W := by
 have h := h.below hB h.lt;exact ⟨h.cell 0, h.cell 1, h.cell 2, cell_keep hB hb hc, hB⟩
theorem Mq4.b {m : Mv} {g b j : Nat} {v : Value} {w1 W : World} (h : Mq4 m g b j v w1 W) : RowKit.Below w1.heap.size w1 W := h.2.2.2.2
set_option maxHeartbeats 12800000 in
theorem law_freshAll (m : Mv) (x : Aq) (w : World) (hz : MvZ m) (hI : AqIn x w) (hxl : x.hs.length ≤ 9223372036854775807) :
 Calls Tryz.prog 28 #[.agg #[.int .i64 m.what, .string m.fr, .string m.to_], .slice x.Ea x.hs.length x.ec, .agg #[.string x.q.who.ty, .string x.q.who.id, .string x.q.act.ty, .string x.q.act.id, .string x.q.what.ty, .string x.q.what.id, .slice x.qa x.q.ctx.length x.qc]] w fun r w' => r = .returned (.bool (freshA m x.es x.q)) ∧ RowKit.Below w.heap.size w w' := by
 obtain ⟨FA, hFA⟩ : ∃ FA, freshA m x.es x.q = FA := ⟨_, rfl⟩;rw [hFA];have HFA := Lib.hid hFA;have hb0 : RowKit.Below w.heap.size w ((w.alloc (.cells #[.int .i64 m.what, .string m.fr, .string m.to_] 56)).alloc (.cells #[.string x.q.who.ty, .string x.q.who.id, .string x.q.act.ty, .string x.q.act.id, .string x.q.what.ty, .string x.q.what.id, .slice x.qa x.q.ctx.length x.qc] 39)) := by (repeat (first | assumption | exact Below.refl _ _ | apply Below.drew | apply below_drewN | (refine Below.alloc ?_ (by first | exact Nat.le_refl _ | omega | (simp; done) | (simp; omega)) _)))
 have B0 := Lib.hid ((Blk.new w 56 #[.int .i64 m.what, .string m.fr, .string m.to_]).alloc (.cells #[.string x.q.who.ty, .string x.q.who.id, .string x.q.act.ty, .string x.q.act.id, .string x.q.what.ty, .string x.q.what.id, .slice x.qa x.q.ctx.length x.qc] 39));have D0 : Hid (Blk ((w.alloc (.cells #[.int .i64 m.what, .string m.fr, .string m.to_] 56)).alloc (.cells #[.string x.q.who.ty, .string x.q.who.id, .string x.q.act.ty, .string x.q.act.id, .string x.q.what.ty, .string x.q.what.id, .slice x.qa x.q.ctx.length x.qc] 39)) (w.heap.size + 1) 39 #[.string x.q.who.ty, .string x.q.who.id, .string x.q.act.ty, .string x.q.act.id, .string x.q.what.ty, .string x.q.what.id, .slice x.qa x.q.ctx.length x.qc]) := by
  have := Blk.new (w.alloc (.cells #[.int .i64 m.what, .string m.fr, .string m.to_] 56)) 39 #[.string x.q.who.ty, .string x.q.who.id, .string x.q.act.ty, .string x.q.act.id, .string x.q.what.ty, .string x.q.what.id, .slice x.qa x.q.ctx.length x.qc];rw [World.size_alloc] at this;exact this
 have HB := Lib.hid hb0;have HF := Lib.hid (fun W e A c (h1 : e.length ≤ c) (h2 : c ≤ 9223372036854775807) (h3 : NdOk e) (h4 : NdSl W W.heap.size A e) => move_Fresh m e A c W hz h1 h2 h3 h4);have HI := Lib.hid hI;have HL := Lib.hid hI.ents.ens.len;clear hI hb0 hFA;go_enter Tryz.func28, Tryz.ntmps28
 go_wp2_with fail
 generalize hw1 : (w.alloc _).alloc _ = w1 at B0 D0 HB ⊢;clear hw1;go_loopw [7] (fun kk wr => ∃ k : Nat, kk = .int .i64 k ∧ k ≤ x.hs.length ∧ Hid ((x.es.take k).all (freshE m) = true) ∧ RowKit.Below w.heap.size w wr ∧ RowKit.Below w1.heap.size w1 wr) (fun kk _ => x.hs.length - (intOf kk).toNat)
 case atStart => exact ⟨0, rfl, by omega, Lib.hid rfl, HB.out, RowKit.Below.refl _ _⟩
 case round =>
  obtain ⟨k, rfl, hk, HT, hbr, hbr1⟩ := hrel;have hzr := hbr.size;have B1 := Lib.hid (B0.out.below hbr1 B0.out.lt);have D1 := Lib.hid (D0.out.below hbr1 D0.out.lt);by_cases hlt : k < x.hs.length
  case neg =>
   have hkk : k = x.hs.length := (by omega);have HALL : Hid (x.es.all (freshE m) = true) := by
    show _ = _;have h1 := HT.out;rwa [List.take_of_length_le (by rw [hkk, HL.out]; exact Nat.le_refl _)] at h1
   have hI1 := HI.out.later hbr;have HFc := Lib.hid (HF.out wr x.q.ctx x.qa x.qc hI1.qc.1 hI1.qc.2 hI1.qk hI1.ctx);obtain ⟨F, hF⟩ : ∃ F, (freshV m x.q.ctx).1 = F := ⟨_, rfl⟩;obtain ⟨K, hK⟩ : ∃ K, (freshV m x.q.ctx).2 = K := ⟨_, rfl⟩;rw [hF, hK] at HFc;have HV : Hid (FA = ((K == 0 && F) && !(badU m x.q.who || (badU m x.q.act || badU m x.q.what)))) := by
    show _ = _;rw [← HFA.out]; unfold freshA;rw [HALL.out, hF, hK]; rfl
   have cc := B1.out.cell;have cl := B1.out.lt;have dc := D1.out.cell;have dl := D1.out.lt;clear hF hK hI1 hkk HALL HFA;go_wp2_with fail
   refine HFc.out.mono ?_;rintro r w5 ⟨rfl, hb5⟩;have B5 := B1.out.below hb5 B1.out.lt;have D5 := D1.out.below hb5 D1.out.lt;have HW := Lib.hid (hbr.trans (hb5.mono hbr.size));clear cc cl dc dl hb5 HFc;have m0 : w5.cell? ⟨w.heap.size, 0, none⟩ = some (.int .i64 m.what) := B5.cell 0;have m2 : w5.cell? ⟨w.heap.size, 2, none⟩ = some (.string m.to_) := B5.cell 2;have ml := B5.lt;have q0 : w5.cell? ⟨w.heap.size + 1, 0, none⟩ = some (.string x.q.who.ty) := D5.cell 0;have q2 : w5.cell? ⟨w.heap.size + 1, 2, none⟩ = some (.string x.q.act.ty) := D5.cell 2;have q4 : w5.cell? ⟨w.heap.size + 1, 4, none⟩ = some (.string x.q.what.ty) := D5.cell 4;have ql := D5.lt;clear B5 D5;unfold badU at HV;cases hm2 : (m.what == 2) with
   | false =>
    rw [hm2] at HV;by_cases hK0 : K = 0
    · subst hK0;rw [errV_zero];have hv : FA = F := by rw [HV.out]; cases F <;> rfl
      subst hv;clear HV;cases FA <;> (
       go_wp2_with fail
       go_ret
       exact ⟨rfl, HW.out⟩)
    · have tk : (K != 0) = true := (by simpa using hK0);have tk2 : (K == 0) = false := (by simpa using hK0);have hv : FA = false := (by rw [HV.out, tk2]; rfl);subst hv;clear HV hK0;go_wp2_with fail
      go_ret
      exact ⟨rfl, HW.out⟩
   | true =>
    rw [hm2] at HV;cases h1 : (x.q.who.ty.toList == m.to_.toList) with
    | true => as_aux_lemma =>
     rw [h1] at HV;by_cases hK0 : K = 0
     · subst hK0;rw [errV_zero];cases F <;> (
        have hv := HV.out;simp at hv;subst hv;clear HV;go_wp2_with fail
        go_ret
        exact ⟨rfl, HW.out⟩)
     · have tk : (K != 0) = true := (by simpa using hK0);have tk2 : (K == 0) = false := (by simpa using hK0);have hv : FA = false := (by rw [HV.out, tk2]; rfl);subst hv;clear HV hK0;go_wp2_with fail
       go_ret
       exact ⟨rfl, HW.out⟩
    | false =>
     cases h2 : (x.q.act.ty.toList == m.to_.toList) with
     | true => as_aux_lemma =>
      rw [h1, h2] at HV;by_cases hK0 : K = 0
      · subst hK0;rw [errV_zero];cases F <;> (
         have hv := HV.out;simp at hv;subst hv;clear HV;go_wp2_with fail
         go_ret
         exact ⟨rfl, HW.out⟩)
      · have tk : (K != 0) = true := (by simpa using hK0);have tk2 : (K == 0) = false := (by simpa using hK0);have hv : FA = false := (by rw [HV.out, tk2]; rfl);subst hv;clear HV hK0;go_wp2_with fail
        go_ret
        exact ⟨rfl, HW.out⟩
     | false =>
      cases h3 : (x.q.what.ty.toList == m.to_.toList) <;> (as_aux_lemma =>
       rw [h1, h2, h3] at HV;by_cases hK0 : K = 0
       · subst hK0;rw [errV_zero];cases F <;> (
          have hv := HV.out;simp at hv;subst hv;clear HV;go_wp2_with fail
          go_ret
          exact ⟨rfl, HW.out⟩)
       · have tk : (K != 0) = true := (by simpa using hK0);have tk2 : (K == 0) = false := (by simpa using hK0);have hv : FA = false := (by rw [HV.out, tk2]; rfl);subst hv;clear HV hK0;go_wp2_with fail
         go_ret
         exact ⟨rfl, HW.out⟩)
  obtain ⟨h, hh⟩ : ∃ h, x.hs[k]? = some h := ⟨_, List.getElem?_eq_getElem hlt⟩;obtain ⟨e, he⟩ : ∃ e, x.es[k]? = some e := ⟨_, List.getElem?_eq_getElem (by rw [← HL.out]; exact hlt)⟩;have hem := List.mem_of_getElem? he;have hIr := HI.out.later hbr;have hE := hIr.ents.ens.at_ k h e hh he;obtain ⟨b, o, hA, hb, d0, d1, d2, d3⟩ := ehSl_at hIr.ents.sl hh;rw [hA];have c3 : wr.cell? ⟨b, o + k * 4 + 3, none⟩ = some (.slice h.aa e.at_.length h.ac) := by rw [← hE.an]; exact d3
  have HFe := Lib.hid (fun W (hW : RowKit.Below wr.heap.size wr W) => HF.out W e.at_ h.aa h.ac (by rw [← hE.an]; exact hE.ac.1) hE.ac.2 (hIr.ents.az e hem) ((hE.at_.below hW).more hW.size));have HS0 : Hid (Mq4 m w.heap.size b (o + k * 4 + 3) (.slice h.aa e.at_.length h.ac) wr wr.drew) := Lib.hid (Mq4.of B1.out hb c3 ((RowKit.Below.refl _ _).drew));have i1 : (0 : Int) ≤ (k : Int) := by omega
  have i2 : (k : Int) < (x.hs.length : Int) := by omega
  have HEE := Lib.hid hE;have HEM := Lib.hid he;obtain ⟨F, hF⟩ : ∃ F, (freshV m e.at_).1 = F := ⟨_, rfl⟩;obtain ⟨K, hK⟩ : ∃ K, (freshV m e.at_).2 = K := ⟨_, rfl⟩;rw [hF, hK] at HFe;have HF1 := Lib.hid hF;have HK1 := Lib.hid hK;clear hE hIr hem he hh hF hK d3;go_wp2_with fail
  go_cut [8, 9] from 20 to 29 (fun fv ev wx => fv = .bool F ∧ ev = errV K ∧ Hid (RowKit.Below wr.heap.size wr wx))
  case first =>
   go_region_held3 (fun W => W.cell? ⟨w.heap.size, 0, none⟩ = some (.int .i64 m.what) ∧ W.cell? ⟨w.heap.size, 1, none⟩ = some (.string m.fr) ∧ W.cell? ⟨w.heap.size, 2, none⟩ = some (.string m.to_) ∧ W.cell? ⟨b, o + k * 4 + 3, none⟩ = some (.slice h.aa e.at_.length h.ac) ∧ RowKit.Below wr.heap.size wr W) (first | exact HS0.out | exact Mq4.of B1.out hb c3 (by assumption) | exact Mq4.of B1.out hb c3 hbw5)
    ((go_at_call 27; refine (HFe.out _ (Mq4.b (m := m) (g := w.heap.size) (b := b) (j := o + k * 4 + 3) (v := .slice h.aa e.at_.length h.ac) (w1 := wr) (by assumption))).mono ?_; rintro r w5 ⟨rfl, hb5⟩; have hbw5 : RowKit.Below wr.heap.size wr w5 := (Mq4.b (m := m) (g := w.heap.size) (b := b) (j := o + k * 4 + 3) (v := .slice h.aa e.at_.length h.ac) (w1 := wr) (by assumption)).trans (hb5.mono (Mq4.b (m := m) (g := w.heap.size) (b := b) (j := o + k * 4 + 3) (v := .slice h.aa e.at_.length h.ac) (w1 := wr) (by assumption)).size)))
   all_goals
    go_wp2_with fail
    go_meet
    exact ⟨rfl, rfl, hbw5⟩
  obtain ⟨rfl, rfl, HW5⟩ := hcut;obtain ⟨w5, rfl⟩ : ∃ w5, w5 = wc := ⟨_, rfl⟩;have HB5 := Lib.hid (hbr.trans (HW5.out.mono hbr.size));have HB51 := Lib.hid (hbr1.trans (HW5.out.mono hbr1.size));have B5 := B1.out.below HW5.out B1.out.lt;have e0 : w5.cell? ⟨b, o + k * 4, none⟩ = some (.string e.u.ty) := cell_keep HW5.out hb (by rw [← HEE.out.u]; exact d0);have e2 : w5.cell? ⟨b, o + k * 4 + 2, none⟩ = some (.slice h.ua e.up.length h.uc) := cell_keep HW5.out hb (by rw [← HEE.out.un]; exact d2);have m0 : w5.cell? ⟨w.heap.size, 0, none⟩ = some (.int .i64 m.what) := B5.cell 0;have m2 : w5.cell? ⟨w.heap.size, 2, none⟩ = some (.string m.to_) := B5.cell 2;have ml := B5.lt;have HUP := Lib.hid ((HEE.out.up.below HW5.out).more HW5.out.size);have hb5 : b < w5.heap.size := by have := HW5.out.size; omega
  have hul : e.up.length ≤ 9223372036854775807 := by have := HEE.out.uc; rw [HEE.out.un] at this; omega
  clear c3 d0 d1 d2 HS0 HFe B5 HW5 HEE hb hbr hbr1;by_cases hK0 : K = 0
  case neg =>
   have tk : (K != 0) = true := (by simpa using hK0);have hv : FA = false := by
    rw [← HFA.out]; unfold freshA;rw [all_not HEM.out (by unfold freshE; rw [HK1.out]; simp [hK0])]; rfl
   subst hv;clear hK0;go_wp2_with fail
   go_quiet (fail)
   go_wp2_with fail
   go_ret
   exact ⟨rfl, below_drewN HB5.out _⟩
  subst hK0;rw [errV_zero];cases F with
  | false =>
   have hv : FA = false := by
    rw [← HFA.out]; unfold freshA;rw [all_not HEM.out (by unfold freshE; rw [HF1.out]; simp)]; rfl
   subst hv;go_wp2_with fail
   go_quiet (fail)
   go_wp2_with fail
   go_ret
   exact ⟨rfl, below_drewN HB5.out _⟩
  | true =>
   cases hm2 : (m.what == 2) with
   | false =>
    have HBU : Hid (badU m e.u = false) := (by show _ = _; unfold badU; rw [hm2]; rfl);go_wp2_with fail
    go_quiet (fail)
    go_wp2_with fail
    go_loopw [10] (fun jj wr2 => ∃ j : Nat, jj = .int .i64 j ∧ j ≤ e.up.length ∧ Hid ((e.up.take j).all (fun p => !badU m p) = true) ∧ RowKit.Below w5.heap.size w5 wr2) (fun jj _ => e.up.length - (intOf jj).toNat)
    case atStart => exact ⟨0, rfl, by omega, Lib.hid rfl, below_drewN (RowKit.Below.refl _ _) _⟩
    case round =>
     obtain ⟨j, rfl, hj, HJ, hbj⟩ := hrel;have f0 := cell_keep hbj ml m0;have f2 := cell_keep hbj ml m2;have f3 := cell_keep hbj hb5 e2;have fl := Nat.lt_of_lt_of_le ml hbj.size;have fb := Nat.lt_of_lt_of_le hb5 hbj.size;by_cases hlj : j < e.up.length
     · obtain ⟨p, hp⟩ : ∃ p, e.up[j]? = some p := ⟨_, List.getElem?_eq_getElem hlj⟩;obtain ⟨b2, o2, hA2, hb2, p0, p1⟩ := udSl_at (HUP.out.below hbj) hp;rw [hA2] at f3;have j1 : (0 : Int) ≤ (j : Int) := (by omega);have j2 : (j : Int) < (e.up.length : Int) := (by omega);have HP := Lib.hid hp;clear hp;have HJ2 : Hid ((e.up.take (j + 1)).all (fun p => !badU m p) = true) := (by show _ = _; rw [all_next HP.out, HJ.out]; unfold badU; rw [hm2]; rfl);go_wp2_with fail
       go_quiet (fail)
       go_wp2_with fail
       exact ⟨⟨j + 1, by go_num, by omega, HJ2, below_drewN hbj _⟩, by simp [intOf]; omega⟩
     · have hje : j = e.up.length := (by omega);have HT2 : Hid ((x.es.take (k + 1)).all (freshE m) = true) := by
        show _ = _;rw [all_next HEM.out, HT.out];have h1 := HJ.out;rw [hje, List.take_length] at h1;unfold freshE;rw [HK1.out, HF1.out, HBU.out, h1]; rfl
       clear HJ hje;go_wp2_with fail
       exact ⟨⟨k + 1, by go_num, by omega, HT2, HB5.out.trans (hbj.mono HB5.out.size), HB51.out.trans (hbj.mono HB51.out.size)⟩, by simp [intOf]; omega⟩
   | true =>
    cases hty : (e.u.ty.toList == m.to_.toList) with
    | true =>
     have hv : FA = false := by
      rw [← HFA.out]; unfold freshA;rw [all_not HEM.out (by unfold freshE badU; rw [hm2, hty]; simp)]; rfl
     subst hv;go_wp2_with fail
     go_quiet (fail)
     go_wp2_with fail
     go_ret
     exact ⟨rfl, below_drewN HB5.out _⟩
    | false =>
     have HBU : Hid (badU m e.u = false) := (by show _ = _; unfold badU; rw [hty]; simp);go_wp2_with fail
     go_quiet (fail)
     go_wp2_with fail
     go_loopw [10] (fun jj wr2 => ∃ j : Nat, jj = .int .i64 j ∧ j ≤ e.up.length ∧ Hid ((e.up.take j).all (fun p => !badU m p) = true) ∧ RowKit.Below w5.heap.size w5 wr2) (fun jj _ => e.up.length - (intOf jj).toNat)
     case atStart => exact ⟨0, rfl, by omega, Lib.hid rfl, below_drewN (RowKit.Below.refl _ _) _⟩
     case round =>
      obtain ⟨j, rfl, hj, HJ, hbj⟩ := hrel;have f0 := cell_keep hbj ml m0;have f2 := cell_keep hbj ml m2;have f3 := cell_keep hbj hb5 e2;have fl := Nat.lt_of_lt_of_le ml hbj.size;have fb := Nat.lt_of_lt_of_le hb5 hbj.size;by_cases hlj : j < e.up.length
      · obtain ⟨p, hp⟩ : ∃ p, e.up[j]? = some p := ⟨_, List.getElem?_eq_getElem hlj⟩;obtain ⟨b2, o2, hA2, hb2, p0, p1⟩ := udSl_at (HUP.out.below hbj) hp;rw [hA2] at f3;have j1 : (0 : Int) ≤ (j : Int) := (by omega);have j2 : (j : Int) < (e.up.length : Int) := (by omega);have HP := Lib.hid hp;clear hp;cases hpy : (p.ty.toList == m.to_.toList) with
        | true =>
         have hv : FA = false := by
          rw [← HFA.out]; unfold freshA;rw [all_not HEM.out (by
           unfold freshE;rw [all_not HP.out (by unfold badU; rw [hm2, hpy]; rfl)]; simp)]; rfl
         subst hv;go_wp2_with fail
         go_quiet (fail)
         go_wp2_with fail
         go_ret
         exact ⟨rfl, below_drewN (HB5.out.trans (hbj.mono HB5.out.size)) _⟩
        | false =>
         have HJ2 : Hid ((e.up.take (j + 1)).all (fun p => !badU m p) = true) := (by show _ = _; rw [all_next HP.out, HJ.out]; unfold badU; rw [hpy]; simp);go_wp2_with fail
         go_quiet (fail)
         go_wp2_with fail
         exact ⟨⟨j + 1, by go_num, by omega, HJ2, below_drewN hbj _⟩, by simp [intOf]; omega⟩
      · have hje : j = e.up.length := (by omega);have HT2 : Hid ((x.es.take (k + 1)).all (freshE m) = true) := by
         show _ = _;rw [all_next HEM.out, HT.out];have h1 := HJ.out;rw [hje, List.take_length] at h1;unfold freshE;rw [HK1.out, HF1.out, HBU.out, h1]; rfl
        clear HJ hje;go_wp2_with fail
        exact ⟨⟨k + 1, by go_num, by omega, HT2, HB5.out.trans (hbj.mono HB5.out.size), HB51.out.trans (hbj.mono HB51.out.size)⟩, by simp [intOf]; omega⟩
end Go.Proofs.YtpheiojmcafolaaGreatDoor
namespace Go.Proofs.YtpheiojmcafolaaGreatDoor
open Go.RowKit
theorem kids_subM : ∀ (k : Nat) (l : List Nd) (p : List Nd), p ∈ kidsGo k l → ∀ x ∈ p, x ∈ l
 | 0, _, p, h => by rw [kidsGo] at h; cases h
 | _ + 1, [], p, h => by rw [kidsGo] at h; cases h
 | k + 1, x :: l, p, h => by
  rw [kidsGo] at h;split at h
  · rcases List.mem_cons.1 h with rfl | h
    · exact fun y hy => List.mem_of_mem_take hy
    · exact fun y hy => List.mem_of_mem_drop (kids_subM k _ p h y hy)
  · cases h
theorem allSome_mem {α β : Type} (f : α → Option β) : ∀ (ps : List α) (qs : List β), allSome (ps.map f) = some qs → ∀ q ∈ qs, ∃ p ∈ ps, f p = some q
 | [], qs, h, q, hq => by rw [List.map_nil, allSome] at h; injection h with h; subst h; cases hq
 | a :: r, qs, h, q, hq => by
  rw [List.map_cons] at h;cases ha : f a with
  | none => rw [ha, allSome] at h; cases h
  | some b =>
   rw [ha, allSome] at h;cases hr : allSome (r.map f) with
   | none => rw [hr] at h; cases h
   | some l =>
    rw [hr] at h;injection h with h
    subst h;rcases List.mem_cons.1 hq with rfl | hq
    · exact ⟨a, by simp, ha⟩
    · obtain ⟨p, h1, h2⟩ := allSome_mem f r l hr q hq;exact ⟨p, by simp [h1], h2⟩
theorem movGo_num (m : Mv) (vals : Bool) : ∀ (k : Nat) (e out : List Nd), movGo m vals k e = some out → ∀ x ∈ out, (x.op = 2 ∨ x.op = 8) → x ∈ e
 | 0, _, _, h => by rw [movGo] at h; cases h
 | _ + 1, [], _, h => by rw [movGo] at h; cases h
 | k + 1, y :: body, out, h => by
  rw [movGo] at h;cases hp : allSome ((kidsGo body.length body).map (movGo m vals k)) with
  | none => rw [hp] at h; cases h
  | some ps =>
   rw [hp] at h;have key : ∀ q ∈ ps, ∀ x ∈ q, (x.op = 2 ∨ x.op = 8) → x ∈ body := fun q hq x hx h2 => by
    obtain ⟨p, h3, h4⟩ := allSome_mem _ _ _ hp q hq;exact kids_subM _ _ p h3 x (movGo_num m vals k p q h4 x hx h2)
   have hren : ((ren m y).op = 2 ∨ (ren m y).op = 8) → ren m y = y := fun h2 => by
    have : y.op = 2 ∨ y.op = 8 := (by rw [← (ren_op m y).1]; exact h2);rw [ren_id (by unfold looksB; rw [if_neg (by omega), if_neg (by omega)])]
   have flat : ∀ qs : List (List Nd), (∀ q ∈ qs, q ∈ ps) → ∀ x ∈ ren m y :: qs.flatten, (x.op = 2 ∨ x.op = 8) → x ∈ y :: body := fun qs hqs x hx h2 => by
    rcases List.mem_cons.1 hx with rfl | hx
    · rw [hren h2]; exact List.mem_cons_self ..
    · obtain ⟨q, h3, h4⟩ := List.mem_flatten.1 hx;exact List.mem_cons_of_mem _ (key q (hqs q h3) x h4 h2)
   dsimp only at h;split at h
   · split at h
     · injection h with h; subst h
       exact flat _ fun q hq => (List.mergeSort_perm _ _).mem_iff.1 hq
     · cases h
   · split at h
     · injection h with h; subst h
       intro x hx h2;unfold setOfP at hx;split at hx
       · cases hx
       · split at hx
         · cases hx
         · unfold setNodes at hx;rcases List.mem_cons.1 hx with rfl | hx
           · simp at h2
           · obtain ⟨q, h3, h4⟩ := List.mem_flatten.1 hx;exact List.mem_cons_of_mem _ (key q (mem_setParts h3) x h4 h2)
     · injection h with h; subst h
       exact flat _ fun q hq => hq
theorem mvV_num {m : Mv} (hm : mvErr m = 0) {v : List Nd} (h : GV m v) : ∀ x ∈ mvV m v, x.op = 2 → x ∈ v := fun x hx h2 => movGo_num m true _ v _ (h.mv hm).1 x hx (.inl h2)
theorem ent_all {es : List En} (h : entErr es = 0) : ∀ e ∈ es, udErr e.u = 0 ∧ entOne e = 0 := fun e he => by
 unfold entErr at h;split at h
 · cases h
 · split at h
   · rename_i h1 h2; exact absurd h h2
   · rename_i h1 h2;obtain ⟨i, hi⟩ := List.getElem?_of_mem he;have h3 := fnz_all (Classical.not_not.1 h2) i (by
      obtain ⟨h4, _⟩ := List.getElem?_eq_some_iff.1 hi;exact h4)
     unfold entAt at h3;rw [hi] at h3;dsimp only at h3;split at h3
     · rename_i h4; exact absurd h3 h4
     · rename_i h4;split at h3
       · cases h3
       · exact ⟨Classical.not_not.1 h4, h3⟩
theorem ent_at {e : En} (h : entOne e = 0) : e.up.length ≤ 6 ∧ upsErr e.up = 0 ∧ valErr e.at_ = 0 ∧ opH e.at_ = 6 := by
 unfold entOne at h;split at h
 · cases h
 · split at h
   · rename_i h1 h2; exact absurd h h2
   · split at h
     · rename_i h1 h2 h3; exact absurd h h3
     · split at h
       · rename_i h1 h2 h3 h4; exact ⟨by omega, Classical.not_not.1 h2, Classical.not_not.1 h3, h4⟩
       · cases h
theorem esF_of {m : Mv} {es : List En} (h : entErr es = 0) (hf : ∀ e ∈ es, FrL m e.at_ ∧ FrU m e.u ∧ ∀ p ∈ e.up, FrU m p) : EsF m es :=
 ⟨fun e he => (hf e he).2.1, fun e he => (hf e he).2.2, fun e he => by
  have := ent_at (ent_all h e he).2;exact ⟨⟨this.2.2.1, (hf e he).1⟩, this.2.2.2⟩⟩
theorem rqF_of {m : Mv} {q : Rq} (h : rqErr q = 0) (hc : FrL m q.ctx) (h1 : FrU m q.who) (h2 : FrU m q.act) (h3 : FrU m q.what) : RqF m q :=
 ⟨h, h1, h2, h3, (rq_parts h).2.2.2.1, hc⟩
end Go.Proofs.YtpheiojmcafolaaGreatDoor
