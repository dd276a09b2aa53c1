/-
  THE WALK of the law AuthOrder.
-/
import Derived.Test.YtpheiojmcafolaaGreatDoorAw16
import Derived.Test.YtpheiojmcafolaaGreatDoorAw17
import Derived.BigQuiet
namespace Go.Proofs.YtpheiojmcafolaaGreatDoor
set_option maxRecDepth 100000
open Go.RowKit Go.Sort
def inC (k : Int) : List Value := [.int .i64 k]
theorem inC_ok : EncOk inC 1 := ⟨fun _ => rfl, by omega, fun x u hu => by simp only [inC, List.mem_cons, List.not_mem_nil, or_false] at hu; subst hu; rfl⟩
abbrev InSl := SlG inC 1
theorem inSl_at {w : World} {B : Nat} {A : Option Addr} {xs : List Int} (h : InSl w B A xs) {i : Nat} {x : Int} (hx : xs[i]? = some x) : ∃ b o, A = some ⟨b, o, none⟩ ∧ b < B ∧ ∀ j y, xs[j]? = some y → w.cell? ⟨b, o + j, none⟩ = some (.int .i64 y) := by
 obtain ⟨b, o, e, hb, hc⟩ := h.at_ (List.getElem?_eq_some_iff.1 hx).1
 refine ⟨b, o, e, hb, fun j y hy => ?_⟩
 have := hc j y hy 0 _ rfl
 rwa [Nat.mul_one, Nat.add_zero] at this
theorem byP_len {ps : List PoM} {vt : PoM → Int} : (byP nmQ fbQ vt ps).length ≤ ps.length ∧ (wrongs nmQ vt ps).length ≤ ps.length := by
 have h : ∀ f : PoM → Bool, ((ps.filter f).map nmQ).length ≤ ps.length := fun f => by rw [List.length_map]; exact List.length_filter_le _ _
 refine ⟨?_, h _⟩
 unfold byP
 split
 · exact h _
 · exact h _
set_option maxHeartbeats 12800000 in
theorem law_or_bad (x : Aq) (ps : List PoM) (A : Option Addr) (c : Nat) (ks : List Int) (Ak : Option Addr) (ck : Nat) (w : World) (hI : AqIn x w) (hP : PosIn w A ps) (hk : ¬ askErr x ps = 0) :
   Calls Tryz.prog 6 #[.slice x.Ea x.hs.length x.ec, .slice A ps.length c, .agg #[.string x.q.who.ty, .string x.q.who.id, .string x.q.act.ty, .string x.q.act.id, .string x.q.what.ty, .string x.q.what.id, .slice x.qa x.q.ctx.length x.qc], .slice Ak ks.length ck] w fun r w' => r = .returned (.bool true) ∧ RowKit.Below w.heap.size w w' := by
 have B0 := Lib.hid (Blk.new w 39 #[.string x.q.who.ty, .string x.q.who.id, .string x.q.act.ty, .string x.q.act.id, .string x.q.what.ty, .string x.q.what.id, .slice x.qa x.q.ctx.length x.qc])
 have h0 : RowKit.Below w.heap.size w (w.alloc (.cells #[.string x.q.who.ty, .string x.q.who.id, .string x.q.act.ty, .string x.q.act.id, .string x.q.what.ty, .string x.q.what.id, .slice x.qa x.q.ctx.length x.qc] 39)) := by (repeat (first | assumption | exact Below.refl _ _ | apply Below.drew | apply below_drewN | (refine Below.alloc ?_ (by first | exact Nat.le_refl _ | omega | (simp; done) | (simp; omega)) _)))
 have H0 := Lib.hid h0
 have HP := Lib.hid (law_permitted (w.alloc (.cells #[.string x.q.who.ty, .string x.q.who.id, .string x.q.act.ty, .string x.q.act.id, .string x.q.what.ty, .string x.q.what.id, .slice x.qa x.q.ctx.length x.qc] 39)) (hI.err.below h0 hI.err.lt))
 have HA := Lib.hid (fun W (hW : RowKit.Below w.heap.size w W) => auth_Ask_bad x ps A c W (hI.later hW) (hP.later hW) hk)
 unfold AnsBack at HA
 have tk : (askErr x ps != 0) = true := by simpa using hk
 generalize askErr x ps = k at HA tk
 clear hI hP hk h0
 go_enter Tryz.func6, Tryz.ntmps6
 go_wp2_with fail
 refine HP.out.mono ?_
 rintro r w1 ⟨rfl, hb1⟩
 have B1 := Lib.hid (B0.out.below hb1 B0.out.lt)
 have H1 := Lib.hid (H0.out.trans (hb1.mono H0.out.size))
 have cc := B1.out.cell
 have cl := B1.out.lt
 clear hb1
 go_wp2_with fail
 refine (HA.out w1 H1.out).mono ?_
 rintro r w2 ⟨A1, c1, A2, c2, rfl, _, _, _, _, _, _, hb2⟩
 have H2 := Lib.hid (H1.out.trans (hb2.mono H1.out.size))
 clear hb2 cc cl
 go_wp2_with fail
 go_ret
 exact ⟨rfl, H2.out.alloc H2.out.size _⟩
set_option maxHeartbeats 12800000 in
theorem law_or_len (x : Aq) (ps : List PoM) (A : Option Addr) (c : Nat) (ks : List Int) (Ak : Option Addr) (ck : Nat) (w : World) (hI : AqIn x w) (hP : PosIn w A ps) (hk : askErr x ps = 0) (hn : ¬ ks.length = ps.length) :
   Calls Tryz.prog 6 #[.slice x.Ea x.hs.length x.ec, .slice A ps.length c, .agg #[.string x.q.who.ty, .string x.q.who.id, .string x.q.act.ty, .string x.q.act.id, .string x.q.what.ty, .string x.q.what.id, .slice x.qa x.q.ctx.length x.qc], .slice Ak ks.length ck] w fun r w' => r = .returned (.bool true) ∧ RowKit.Below w.heap.size w w' := by
 have B0 := Lib.hid (Blk.new w 39 #[.string x.q.who.ty, .string x.q.who.id, .string x.q.act.ty, .string x.q.act.id, .string x.q.what.ty, .string x.q.what.id, .slice x.qa x.q.ctx.length x.qc])
 have h0 : RowKit.Below w.heap.size w (w.alloc (.cells #[.string x.q.who.ty, .string x.q.who.id, .string x.q.act.ty, .string x.q.act.id, .string x.q.what.ty, .string x.q.what.id, .slice x.qa x.q.ctx.length x.qc] 39)) := by (repeat (first | assumption | exact Below.refl _ _ | apply Below.drew | apply below_drewN | (refine Below.alloc ?_ (by first | exact Nat.le_refl _ | omega | (simp; done) | (simp; omega)) _)))
 have H0 := Lib.hid h0
 have HP := Lib.hid (law_permitted (w.alloc (.cells #[.string x.q.who.ty, .string x.q.who.id, .string x.q.act.ty, .string x.q.act.id, .string x.q.what.ty, .string x.q.what.id, .slice x.qa x.q.ctx.length x.qc] 39)) (hI.err.below h0 hI.err.lt))
 have HA := Lib.hid (fun W (hW : RowKit.Below w.heap.size w W) => auth_Ask_ok x ps A c W (hI.later hW) (hP.later hW) hk)
 unfold AnsBack at HA
 rw [errV_zero] at HA
 have tn : ((ks.length : Int) != (ps.length : Int)) = true := by simp; omega
 clear hI hP hk h0 hn
 go_enter Tryz.func6, Tryz.ntmps6
 go_wp2_with fail
 refine HP.out.mono ?_
 rintro r w1 ⟨rfl, hb1⟩
 have B1 := Lib.hid (B0.out.below hb1 B0.out.lt)
 have H1 := Lib.hid (H0.out.trans (hb1.mono H0.out.size))
 have cc := B1.out.cell
 have cl := B1.out.lt
 clear hb1
 go_wp2_with fail
 refine (HA.out w1 H1.out).mono ?_
 rintro r w2 ⟨A1, c1, A2, c2, rfl, _, _, _, _, _, _, hb2⟩
 have H2 := Lib.hid (H1.out.trans (hb2.mono H1.out.size))
 clear hb2 cc cl
 go_wp2_with fail
 go_ret
 exact ⟨rfl, H2.out.alloc H2.out.size _⟩
set_option maxHeartbeats 12800000 in
theorem law_or_ok (x : Aq) (ps : List PoM) (A : Option Addr) (c : Nat) (ks : List Int) (Ak : Option Addr) (ck : Nat) (w : World) (hI : AqIn x w) (hP : PosIn w A ps) (hK : InSl w w.heap.size Ak ks) (hkl : ks.length ≤ 9223372036854775807) (hk : askErr x ps = 0) (hn : ks.length = ps.length) :
   Calls Tryz.prog 6 #[.slice x.Ea x.hs.length x.ec, .slice A ps.length c, .agg #[.string x.q.who.ty, .string x.q.who.id, .string x.q.act.ty, .string x.q.act.id, .string x.q.what.ty, .string x.q.what.id, .slice x.qa x.q.ctx.length x.qc], .slice Ak ks.length ck] w fun r w' => r = .returned (.bool true) ∧ RowKit.Below w.heap.size w w' := by
 obtain ⟨j0, hj, hy0, hy1, hy2⟩ := info_parts pol_info
 obtain ⟨h12, -, -⟩ := aErr_use (firstI_zero hk).2.1
 have B0 := Lib.hid (Blk.new w 39 #[.string x.q.who.ty, .string x.q.who.id, .string x.q.act.ty, .string x.q.act.id, .string x.q.what.ty, .string x.q.what.id, .slice x.qa x.q.ctx.length x.qc])
 have h0 : RowKit.Below w.heap.size w (w.alloc (.cells #[.string x.q.who.ty, .string x.q.who.id, .string x.q.act.ty, .string x.q.act.id, .string x.q.what.ty, .string x.q.what.id, .slice x.qa x.q.ctx.length x.qc] 39)) := by (repeat (first | assumption | exact Below.refl _ _ | apply Below.drew | apply below_drewN | (refine Below.alloc ?_ (by first | exact Nat.le_refl _ | omega | (simp; done) | (simp; omega)) _)))
 have H0 := Lib.hid h0
 have HP := Lib.hid (law_permitted (w.alloc (.cells #[.string x.q.who.ty, .string x.q.who.id, .string x.q.act.ty, .string x.q.act.id, .string x.q.what.ty, .string x.q.what.id, .slice x.qa x.q.ctx.length x.qc] 39)) (hI.err.below h0 hI.err.lt))
 obtain ⟨vt, hvt⟩ : ∃ vt, vt = vtQ x.es x.q := ⟨_, rfl⟩
 have HA := Lib.hid (fun W (hW : RowKit.Below w.heap.size w W) => auth_Ask_ok x ps A c W (hI.later hW) (hP.later hW) hk)
 have HB := Lib.hid (fun W (hW : RowKit.Below w.heap.size w W) A' c' (os : List PoM) (hp : PosIn W A' os) (h0 : askErr x os = 0) => auth_Ask_ok x os A' c' W (hI.later hW) hp h0)
 rw [← hvt] at HA HB
 unfold AnsBack at HA HB
 rw [errV_zero] at HA HB
 have hbl := (byP_len (ps := ps) (vt := vt))
 have HPS := Lib.hid hP
 have HKS := Lib.hid hK
 have tn : ((ks.length : Int) != (ps.length : Int)) = false := by simp [hn]
 have HN := Lib.hid hn
 have HKE := Lib.hid hk
 have HPM : Hid (∀ os : List PoM, os.Perm ps → (byP nmQ fbQ vt os).Perm (byP nmQ fbQ vt ps) ∧ (wrongs nmQ vt os).Perm (wrongs nmQ vt ps) ∧ allowP nmQ fbQ vt os = allowP nmQ fbQ vt ps ∧ askErr x os = 0) := fun os ho => by
   obtain ⟨a, b, d⟩ := by_perm (nm := nmQ) (fb := fbQ) (vt := vt) ho
   obtain ⟨g1, g2, g3⟩ := firstI_zero hk
   refine ⟨a, b, d, ?_⟩
   have h4 : aErr os = 0 := auth_perm ho.symm g2
   unfold askErr firstI
   rw [if_neg (by simp [g1]), if_neg (by simp [h4]), g3]
 generalize allowP nmQ fbQ vt ps = OB at HA HPM
 generalize byP nmQ fbQ vt ps = BY at HA HPM hbl
 generalize wrongs nmQ vt ps = WR at HA HPM hbl
 have nks : ks.length ≤ 12 := by omega
 clear hI hP hk h0 hvt hn hK hkl
 go_enter Tryz.func6, Tryz.ntmps6
 go_wp2_with fail
 refine HP.out.mono ?_
 rintro r w1 ⟨rfl, hb1⟩
 have B1 := Lib.hid (B0.out.below hb1 B0.out.lt)
 have H1 := Lib.hid (H0.out.trans (hb1.mono H0.out.size))
 have cc := B1.out.cell
 have cl := B1.out.lt
 clear hb1
 go_wp2_with fail
 refine (HA.out w1 H1.out).mono ?_
 rintro r w2 ⟨A1, c1, A2, c2, rfl, n1, n2, n3, n4, s1, s2, hb2⟩
 have H2 := Lib.hid (H1.out.trans (hb2.mono H1.out.size))
 have B2 := Lib.hid ((B1.out.below hb2 B1.out.lt).alloc (.cells #[.bool OB, .slice A1 BY.length c1, .slice A2 WR.length c2] 70))
 have D2 := Lib.hid (Blk.new w2 70 #[.bool OB, .slice A1 BY.length c1, .slice A2 WR.length c2])
 have hal : RowKit.Below w2.heap.size w2 (w2.alloc (.cells #[.bool OB, .slice A1 BY.length c1, .slice A2 WR.length c2] 70)) := by (repeat (first | assumption | exact Below.refl _ _ | apply Below.drew | apply below_drewN | (refine Below.alloc ?_ (by first | exact Nat.le_refl _ | omega | (simp; done) | (simp; omega)) _)))
 have S1 := Lib.hid ((s1.below hal).more hal.size)
 have S1w := Lib.hid ((s2.below hal).more hal.size)
 have H3 := Lib.hid (H2.out.trans (hal.mono H2.out.size))
 clear hb2 cc cl s1 s2 hal n1 n2 n3 n4
 go_wp2_with fail
 generalize hw3 : w2.alloc (.cells #[.bool OB, .slice A1 BY.length c1, .slice A2 WR.length c2] 70) = w3 at B2 D2 S1 S1w H3 ⊢
 clear hw3
 go_loopw [12, 13] (fun sv kk wr => ∃ (i : Nat) (os : List PoM), kk = .int .i64 i ∧ i ≤ ks.length ∧ Hid (OkO ps ks i os ∧ ∀ z ∈ os, z ∈ ps) ∧ Hid (wr.ownsRow w3.heap.size 47 15 sv os.length (flatG PoM.cells os)) ∧ RowKit.Below w3.heap.size w3 wr) (fun _ kk _ => ks.length - (intOf kk).toNat)
 case atStart => exact ⟨0, [], rfl, by omega, ⟨okO_zero _ _, by simp⟩, World.ownsRow_nil _ _ _ _, RowKit.Below.refl _ _⟩
 case round =>
   obtain ⟨i, os, rfl, hi, HO, HR, hbr⟩ := hrel
   have hzr := hbr.size
   have hwr : RowKit.Below w.heap.size w wr := H3.out.trans (hbr.mono H3.out.size)
   obtain ⟨-, As, cs, hsv, hcs, hcm, -⟩ := own_formG pom_ok HR.out
   subst hsv
   by_cases hlt : i < ks.length
   · obtain ⟨k, hkk⟩ : ∃ k, ks[i]? = some k := ⟨_, List.getElem?_eq_getElem hlt⟩
     obtain ⟨bk, ok, hAk, hbk, hck⟩ := inSl_at (HKS.out.later hwr) hkk
     subst hAk
     have k0 := hck i k hkk
     have HCK : Hid (∀ j y, ks[j]? = some y → wr.cell? ⟨bk, ok + j, none⟩ = some (.int .i64 y)) := hck
     have HKK := Lib.hid hkk
     have i1 : (0 : Int) ≤ (i : Int) := by omega
     have i2 : (i : Int) < (ks.length : Int) := by omega
     clear hck hkk
     by_cases hneg : k < 0
     · have d1 : decide (k < 0) = true := by simp [hneg]
       go_wp2_with fail
       go_ret
       exact ⟨rfl, hwr⟩
     by_cases hbig : (ps.length : Int) ≤ k
     · have d1 : decide (k < 0) = false := by simp [hneg]
       have d2 : decide ((ps.length : Int) ≤ k) = true := by simp [hbig]
       go_wp2_with fail
       go_ret
       exact ⟨rfl, hwr⟩
     obtain ⟨kn, rfl⟩ : ∃ kn : Nat, k = kn := ⟨k.toNat, by omega⟩
     have hkn : kn < ps.length := by omega
     have d1 : decide ((kn : Int) < 0) = false := by simp
     have d2 : decide ((ps.length : Int) ≤ (kn : Int)) = false := by simp; omega
     have d3 : decide (ps.length ≤ kn) = false := by simp; omega
     clear hneg hbig
     have hol : os.length ≤ 12 := by have := HO.out.1.len; omega
     obtain ⟨wo, rfl⟩ : ∃ wo : World, wo = wr := ⟨_, rfl⟩
     go_wp2_with fail
     go_loopw [14] (fun jv wr => ∃ j : Nat, jv = .int .i64 j ∧ j ≤ i ∧ Hid (∀ (j' : Nat) (k' : Int), j' < j → ks[j']? = some k' → k' ≠ (kn : Int)) ∧ RowKit.Below wo.heap.size wo wr) (fun jv _ => i - (intOf jv).toNat)
     case atStart => exact ⟨0, rfl, by omega, fun j' k' h => by omega, RowKit.Below.refl _ _⟩
     case round =>
       obtain ⟨j, rfl, hj, HJ, hbi⟩ := hrel
       have k1 : wr.cell? ⟨bk, ok + i, none⟩ = some (.int .i64 kn) := (hbi.cell (p := ⟨bk, ok + i, none⟩) hbk).trans k0
       by_cases hji : j < i
       · obtain ⟨kj, hkj⟩ : ∃ kj, ks[j]? = some kj := ⟨_, List.getElem?_eq_getElem (by omega)⟩
         have k2 : wr.cell? ⟨bk, ok + j, none⟩ = some (.int .i64 kj) := (hbi.cell (p := ⟨bk, ok + j, none⟩) hbk).trans (HCK.out j kj hkj)
         have j1 : (0 : Int) ≤ (j : Int) := by omega
         have j2 : (j : Int) < (ks.length : Int) := by omega
         have HKJ := Lib.hid hkj
         clear hkj
         by_cases he : kj = (kn : Int)
         · have t1 : (kj == (kn : Int)) = true := by simp [he]
           clear he
           go_wp2_with fail
           go_quiet (fail)
           go_wp2_with fail
           go_ret
           exact ⟨rfl, below_drewN (hwr.trans (hbi.mono hwr.size)) _⟩
         · have t1 : (kj == (kn : Int)) = false := by simpa using he
           have HJ2 : Hid (∀ (j' : Nat) (k' : Int), j' < j + 1 → ks[j']? = some k' → k' ≠ (kn : Int)) := fun j' k' h e => by
             rcases Nat.lt_or_ge j' j with hl | hg
             · exact HJ.out j' k' hl e
             · obtain rfl : j' = j := by omega
               have := HKJ.out
               rw [e] at this; injection this with this; subst this; exact he
           clear he
           go_wp2_with fail
           go_quiet (fail)
           go_wp2_with fail
           exact ⟨⟨j + 1, by go_num, by omega, HJ2, below_drewN hbi _⟩, by simp [intOf]; omega⟩
       · obtain ⟨y, hy⟩ : ∃ y, ps[kn]? = some y := ⟨_, List.getElem?_eq_getElem hkn⟩
         obtain rfl : j = i := by omega
         have hwi : RowKit.Below w.heap.size w wr := hwr.trans (hbi.mono hwr.size)
         obtain ⟨b, o, hA, hb, d0, e1, e2, e3, e4, e5, e6, e7, e8, e9, e10, e11, e12, e13, e14⟩ := poSl_cells (HPS.out.later hwi).sl hy
         subst hA
         have p1 : (0 : Int) ≤ (kn : Int) := by omega
         have p2 : (kn : Int) < (ps.length : Int) := by omega
         have HO2 : Hid (OkO ps ks (j + 1) (os ++ [y]) ∧ ∀ z ∈ os ++ [y], z ∈ ps) := ⟨okO_next HO.out.1 HKK.out (by omega) (by rw [Int.toNat_natCast]; exact hy) HJ.out, fun z hz => by
           rcases List.mem_append.1 hz with hz | hz
           · exact HO.out.2 z hz
           · simp at hz; subst hz; exact List.mem_of_getElem? hy⟩
         have HBR : Hid (RowKit.Below w3.heap.size w3 wr) := hbr.trans (hbi.mono hzr)
         have hrs : w3.heap.size ≤ wr.heap.size := HBR.out.size
         have HO1 : Hid ((wr.alloc (.cells #[.string y.p.name, .bool y.p.forbid, .int .i64 y.p.who.op, .string y.p.who.ty, .string y.p.who.uid.ty, .string y.p.who.uid.id, .int .i64 y.p.act.op, .string y.p.act.ty, .string y.p.act.uid.ty, .string y.p.act.uid.id, .int .i64 y.p.what.op, .string y.p.what.ty, .string y.p.what.uid.ty, .string y.p.what.uid.id, .slice y.A y.cs.length y.c] 47)).ownsRow w3.heap.size 47 15 (.slice As os.length cs) os.length (flatG PoM.cells os)) := own_later (own_later HR.out hbi) (by (repeat (first | assumption | exact Below.refl _ _ | apply Below.drew | apply below_drewN | (refine Below.alloc ?_ (by first | exact Nat.le_refl _ | omega | (simp; done) | (simp; omega)) _))))
         clear hy HJ HKK HCK hji hj
         go_wp2_with (at_builtin; refine wpList_append_own_at _ rfl (.tmp 71) (.tmp 79) 67 rfl w3.heap.size 47 j0 _ 15 216 Tryz.underlying67 hj hy0 hy1 hy2 rfl (by omega) _ os.length (flatG PoM.cells os) rfl HO1.out ⟨wr.heap.size, 0, none⟩ 1 1 (PoM.cells y) rfl rfl (cells_new_at _ _ _ _ rfl) (pom_ok.one y) (by unfold maxLen; omega) (by omega) (by simp; omega) ?_; intro v6 w6 hown6 hgrow6 _ hloc6; obtain ⟨A6, c6, hv6, -⟩ := own_sl hown6; subst hv6; have HB6 : Hid (RowKit.Below w3.heap.size w3 w6) := (HBR.out.alloc HBR.out.size _).grown hgrow6 (by have := HBR.out.size; simp; omega) (fun q hq => (own_lt HO1.out hq).1); have HO6 := Lib.hid hown6; clear hown6 hgrow6 hloc6)
         exact ⟨⟨j + 1, os ++ [y], by go_num, by omega, HO2, by rw [List.length_append, flatG_append, flatG_one]; exact HO6, HB6.out⟩, by simp [intOf]; omega⟩
   · obtain rfl : i = ks.length := by omega
     have hperm : os.Perm ps := okO_perm HO.out.1 HN.out
     obtain ⟨pb, pw, pa, pk⟩ := HPM.out os hperm
     obtain ⟨-, As', cs', e1, l1, m1, hsl⟩ := own_formG pom_ok HR.out
     injection e1 with e1 _ e1'
     subst e1 e1'
     have hB4 := HB.out wr hwr As cs os ⟨hsl, fun z hz => (HPS.out.later hwr).each z (HO.out.2 z hz)⟩ pk
     rw [pa] at hB4
     generalize byP nmQ fbQ vt os = BYo at hB4 pb
     generalize wrongs nmQ vt os = WRo at hB4 pw
     have HB4 := Lib.hid hB4
     have HL1 := Lib.hid (fun W A1 A2 c1 c2 (h1 : StrSl W W.heap.size A1 BY) (h2 : StrSl W W.heap.size A2 BYo) => law_alike BY BYo A1 A2 c1 c2 W h1 h2 (fun x hx => pb.mem_iff.2 hx) pb.length_eq.symm (by omega))
     have HL2 := Lib.hid (fun W A1 A2 c1 c2 (h1 : StrSl W W.heap.size A1 WR) (h2 : StrSl W W.heap.size A2 WRo) => law_alike WR WRo A1 A2 c1 c2 W h1 h2 (fun x hx => pw.mem_iff.2 hx) pw.length_eq.symm (by omega))
     have B3 := Lib.hid (B2.out.below hbr B2.out.lt)
     have D4 := Lib.hid (D2.out.below hbr D2.out.lt)
     have S3 := Lib.hid ((S1.out.below hbr).more hbr.size)
     have S3w := Lib.hid ((S1w.out.below hbr).more hbr.size)
     have cc := B3.out.cell
     have cl := B3.out.lt
     clear hsl HR hbr hB4 pb pw pa pk hperm hbl l1 m1
     go_wp2_with fail
     refine HB4.out.mono ?_
     rintro r w5 ⟨A5, c5, A6, c6, rfl, n1, n2, n3, n4, s5, s6, hb5⟩
     have hal : RowKit.Below w5.heap.size w5 (w5.alloc (.cells #[.bool OB, .slice A5 BYo.length c5, .slice A6 WRo.length c6] 70)) := by (repeat (first | assumption | exact Below.refl _ _ | apply Below.drew | apply below_drewN | (refine Below.alloc ?_ (by first | exact Nat.le_refl _ | omega | (simp; done) | (simp; omega)) _)))
     have D5 := Lib.hid ((D4.out.below hb5 D4.out.lt).alloc (.cells #[.bool OB, .slice A5 BYo.length c5, .slice A6 WRo.length c6] 70))
     have E5 := Lib.hid (Blk.new w5 70 #[.bool OB, .slice A5 BYo.length c5, .slice A6 WRo.length c6])
     have S5 := Lib.hid ((s5.below hal).more hal.size)
     have S5w := Lib.hid ((s6.below hal).more hal.size)
     have S6 := Lib.hid ((((S3.out.below hb5).more hb5.size).below hal).more hal.size)
     have S6w := Lib.hid ((((S3w.out.below hb5).more hb5.size).below hal).more hal.size)
     have H5 := Lib.hid ((hwr.trans (hb5.mono hwr.size)).trans (hal.mono (hwr.trans (hb5.mono hwr.size)).size))
     have dc := D5.out.cell
     have ec := E5.out.cell
     have dl := D5.out.lt
     have el := E5.out.lt
     clear hb5 hal cc cl s5 s6 n1 n2 n3 n4 S3 S3w D4 B3
     generalize hw6 : w5.alloc (.cells #[.bool OB, .slice A5 BYo.length c5, .slice A6 WRo.length c6] 70) = w6 at D5 E5 S5 S5w S6 S6w H5 dc ec dl el
     have hob : (OB == OB) = true := by simp
     go_wp2_with fail
     refine (HL1.out _ A1 A5 c1 c5 S6.out S5.out).mono ?_
     rintro r w7 ⟨rfl, rfl⟩
     go_wp2_with fail
     refine (HL2.out _ A2 A6 c2 c6 S6w.out S5w.out).mono ?_
     rintro r w8 ⟨rfl, rfl⟩
     go_wp2_with fail
     go_ret
     exact ⟨rfl, H5.out⟩
theorem law_aorder (x : Aq) (ps : List PoM) (A : Option Addr) (c : Nat) (ks : List Int) (Ak : Option Addr) (ck : Nat) (w : World) (hI : AqIn x w) (hP : PosIn w A ps) (hK : InSl w w.heap.size Ak ks) (hkl : ks.length ≤ 9223372036854775807) :
   Calls Tryz.prog 6 #[.slice x.Ea x.hs.length x.ec, .slice A ps.length c, .agg #[.string x.q.who.ty, .string x.q.who.id, .string x.q.act.ty, .string x.q.act.id, .string x.q.what.ty, .string x.q.what.id, .slice x.qa x.q.ctx.length x.qc], .slice Ak ks.length ck] w fun r w' => r = .returned (.bool true) ∧ RowKit.Below w.heap.size w w' := by
 by_cases hk : askErr x ps = 0
 · by_cases hn : ks.length = ps.length
   · exact law_or_ok x ps A c ks Ak ck w hI hP hK hkl hk hn
   · exact law_or_len x ps A c ks Ak ck w hI hP hk hn
 · exact law_or_bad x ps A c ks Ak ck w hI hP hk
end Go.Proofs.YtpheiojmcafolaaGreatDoor
