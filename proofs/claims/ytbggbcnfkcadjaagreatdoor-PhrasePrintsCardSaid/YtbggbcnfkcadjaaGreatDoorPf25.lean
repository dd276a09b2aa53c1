/-
  THE WALK of the reference: Behind.
  THE WALKS of the reference: Fault, Put.
-/
import Derived.Test.YtbggbcnfkcadjaaGreatDoorPf24
import Derived.Test.YtbggbcnfkcadjaaGreatDoorPf15
namespace Go.Proofs.YtbggbcnfkcadjaaGreatDoor
open Go.RowKit
def behV (e : List Nd) (at_ : Int) : Int := if at_ < 0 ∨ (e.length : Int) ≤ at_ then -1 else bVal (bR e (.one false) at_.toNat)
theorem behV_nat (e : List Nd) (j : Nat) : behV e j = bVal (bR e (.one false) j) := by
 unfold behV
 split
 · rw [bR_out e false (by omega)]; rfl
 · rfl
def R2Ok (e : List Nd) (m : Nat) : Prop := ∀ (at_ : Int) (A : Option Addr) (c : Nat) (w : World), ((e.length : Int) - at_).toNat ≤ m → e.length ≤ 200 → NdOk e → NdSl w w.heap.size A e →
   Calls Tryz.prog 47 #[.slice A e.length c, .int .i64 at_] w fun r w' => r = .returned (.int .i64 (behV e at_)) ∧ Below w.heap.size w w'
set_option maxRecDepth 100000 in
set_option maxHeartbeats 1600000 in
theorem r2_Behind_out (e : List Nd) (at_ : Int) (A : Option Addr) (c : Nat) (w : World) (hl : e.length ≤ 200) (h : at_ < 0 ∨ (e.length : Int) ≤ at_) :
   Calls Tryz.prog 47 #[.slice A e.length c, .int .i64 at_] w fun r w' => r = .returned (.int .i64 (behV e at_)) ∧ Below w.heap.size w w' := by
 have HV : Hid (behV e at_ = -1) := by show _ = _; unfold behV; rw [if_pos h]
 rcases h with h | h
 · go_enter Tryz.func47, Tryz.ntmps47
   go_wp2_with fail
   go_ret
   exact ⟨ret_int HV.out.symm, by (repeat (first | assumption | exact Below.refl _ _ | apply Below.drew | apply below_drewN | (refine Below.alloc ?_ (by first | exact Nat.le_refl _ | omega | (simp; done) | (simp; omega)) _)))⟩
 · go_enter Tryz.func47, Tryz.ntmps47
   go_wp2_with fail
   all_goals
     go_ret
     exact ⟨ret_int HV.out.symm, by (repeat (first | assumption | exact Below.refl _ _ | apply Below.drew | apply below_drewN | (refine Below.alloc ?_ (by first | exact Nat.le_refl _ | omega | (simp; done) | (simp; omega)) _)))⟩
set_option maxRecDepth 100000 in
set_option maxHeartbeats 1600000 in
theorem r2_Behind_bad (e : List Nd) (k : Nat) (A : Option Addr) (c : Nat) (w : World) (hok : NdOk e) (hsl : NdSl w w.heap.size A e) (hlt : k < e.length) (x : Nd) (hx : e[k]? = some x) (hsh : shapedT x = false) :
   Calls Tryz.prog 47 #[.slice A e.length c, .int .i64 k] w fun r w' => r = .returned (.int .i64 (behV e k)) ∧ Below w.heap.size w w' := by
 have HV : Hid (behV e k = -1) := by show _ = _; unfold behV; rw [if_neg (by omega), show (k : Int).toNat = k from rfl, bR_one e false hx, if_pos (.inl hsh)]; rfl
 obtain ⟨b, o, rfl, hb, hcs⟩ := hsl.at_ hlt
 obtain ⟨d0, d1, d2, d3⟩ := hcs k x hx
 have hox := hok x (List.mem_of_getElem? hx)
 have hf := fun W => r2_Fields x.op x.n x.s x.t W hox.1 hox.2
 rw [show shapedT ⟨x.op, x.n, x.s, x.t⟩ = false from hsh] at hf
 have HF := Lib.hid hf
 clear hsl hcs hx hsh hok hox hf
 go_enter Tryz.func47, Tryz.ntmps47
 go_wp2_with fail
 refine Calls.mono (HF.out _) ?_
 rintro r w1 ⟨rfl, hb1⟩
 go_wp2_with fail
 go_ret
 exact ⟨ret_int HV.out.symm, by (repeat (first | assumption | exact Below.refl _ _ | apply Below.drew | apply below_drewN | (refine Below.alloc ?_ (by first | exact Nat.le_refl _ | omega | (simp; done) | (simp; omega)) _)))⟩
set_option maxRecDepth 100000 in
set_option maxHeartbeats 3200000 in
theorem r2_Behind_good (e : List Nd) (k : Nat) (A : Option Addr) (c : Nat) (w : World) (hl : e.length ≤ 200) (hok : NdOk e) (hsl : NdSl w w.heap.size A e) (hlt : k < e.length) (x : Nd) (hx : e[k]? = some x) (hsh : shapedT x = true)
   (ih : R2Ok e (e.length - k - 1)) :
   Calls Tryz.prog 47 #[.slice A e.length c, .int .i64 k] w fun r w' => r = .returned (.int .i64 (behV e k)) ∧ Below w.heap.size w w' := by
 have hHS := hsl
 obtain ⟨b, o, rfl, hb, hcs⟩ := hsl.at_ hlt
 obtain ⟨d0, d1, d2, d3⟩ := hcs k x hx
 have hox := hok x (List.mem_of_getElem? hx)
 have hf := fun W => r2_Fields x.op x.n x.s x.t W hox.1 hox.2
 rw [show shapedT ⟨x.op, x.n, x.s, x.t⟩ = true from hsh] at hf
 have HF := Lib.hid hf
 by_cases h7 : x.op = 7
 · have HV : Hid (behV e k = -1) := by show _ = _; unfold behV; rw [if_neg (by omega), show (k : Int).toNat = k from rfl, bR_one e false hx, if_pos (.inr (by simp [h7]))]; rfl
   have e7 : (x.op == 7) = true := by simp [h7]
   clear hsl hcs hx hsh hok hox hf h7
   go_enter Tryz.func47, Tryz.ntmps47
   go_wp2_with fail
   refine Calls.mono (HF.out _) ?_
   rintro r w1 ⟨rfl, hb1⟩
   obtain ⟨hcc, hff⟩ := bcell hb1
   go_wp2_with fail
   go_ret
   exact ⟨ret_int HV.out.symm, by (repeat (first | assumption | exact Below.refl _ _ | apply Below.drew | apply below_drewN | (refine Below.alloc ?_ (by first | exact Nat.le_refl _ | omega | (simp; done) | (simp; omega)) _)))⟩
 · have hpn := shapedT_parts x hsh
   obtain ⟨p, hp⟩ : ∃ p, ndParts x = p := ⟨_, rfl⟩
   have HV : Hid (behV e k = bVal (bR e (.more p.toNat (x.op == 6) ⟨#[]⟩) (k + 1))) := by
     show _ = _; unfold behV; rw [if_neg (by omega), show (k : Int).toNat = k from rfl, bR_one e false hx, if_neg (by simp [hsh, h7]), hp]
   have e7 : (x.op == 7) = false := by simp [h7]
   have HP : Hid (∀ W, Calls Tryz.prog 86 #[.agg #[.int .i64 x.op, .int .i64 x.n, .string x.s, .string x.t]] W fun e w' => e = .returned (.int .i64 p) ∧ Below W.heap.size W w') := fun W => by
     rw [← hp]; exact r2_Parts x.op x.n x.s x.t W
   rw [hp] at hpn
   have HOK := Lib.hid hok
   have HS := Lib.hid hHS
   obtain ⟨P, rfl⟩ : ∃ P : Nat, p = P := ⟨p.toNat, by omega⟩
   have HIH : Hid (∀ (j : Nat) (W : World), k + 1 ≤ j → Below w.heap.size w W → Calls Tryz.prog 47 #[.slice (some ⟨b, o, none⟩) e.length c, .int .i64 j] W fun r w' => r = .returned (.int .i64 (bVal (bR e (.one false) j))) ∧ Below W.heap.size W w') := fun j W hj hW => by
     have := ih j (some ⟨b, o, none⟩) c W (by omega) hl hok ((hHS.below hW).more hW.size)
     rw [behV_nat] at this; exact this
   rw [show ((P : Int).toNat) = P from rfl] at HV
   clear hsl hcs hx hsh hok hox hf h7 hp hHS ih
   have hd1 : decide ((k : Int) < 0) = false := by simp
   have hd2 : decide (e.length ≤ k) = false := by simp; omega
   have hd3 : decide ((e.length : Int) ≤ (k : Int)) = false := by simp; omega
   cases h6 : (x.op == 6)
   · rw [h6] at HV
     go_enter Tryz.func47, Tryz.ntmps47
     go_wp2_with fail
     refine Calls.mono (HF.out _) ?_
     rintro r w1 ⟨rfl, hb1⟩
     obtain ⟨hcc, hff⟩ := bcell hb1
     have hbw1 : b < w1.heap.size := by have := hb1.size; omega
     go_wp2_with fail
     have hc0 : (w1.alloc (.cells #[.int .i64 x.op, .int .i64 x.n, .string x.s, .string x.t] 29)).cell? ⟨w1.heap.size, 0, none⟩ = some (.int .i64 x.op) := by simp
     have hc1 : (w1.alloc (.cells #[.int .i64 x.op, .int .i64 x.n, .string x.s, .string x.t] 29)).cell? ⟨w1.heap.size, 1, none⟩ = some (.int .i64 x.n) := by simp
     have hc2 : (w1.alloc (.cells #[.int .i64 x.op, .int .i64 x.n, .string x.s, .string x.t] 29)).cell? ⟨w1.heap.size, 2, none⟩ = some (.string x.s) := by simp
     have hc3 : (w1.alloc (.cells #[.int .i64 x.op, .int .i64 x.n, .string x.s, .string x.t] 29)).cell? ⟨w1.heap.size, 3, none⟩ = some (.string x.t) := by simp
     have hW0 : Below w.heap.size w (w1.alloc (.cells #[.int .i64 x.op, .int .i64 x.n, .string x.s, .string x.t] 29)) := hb1.alloc hb1.size _
     have hz : w1.heap.size < (w1.alloc (.cells #[.int .i64 x.op, .int .i64 x.n, .string x.s, .string x.t] 29)).heap.size := by simp
     generalize (w1.alloc (.cells #[.int .i64 x.op, .int .i64 x.n, .string x.s, .string x.t] 29)) = W0 at hc0 hc1 hc2 hc3 hW0 hz ⊢
     generalize w1.heap.size = nb at hc0 hc1 hc2 hc3 hz ⊢
     clear hb1 hcc hff hbw1
     go_loopw [1, 7] (fun aa ii wr => ∃ j q : Nat, aa = .int .i64 j ∧ ii = .int .i64 q ∧ q ≤ P ∧ j ≤ e.length ∧ k + 1 + q ≤ j ∧ Hid (bR e (.more (P - q) false ⟨#[]⟩) j = bR e (.more P false ⟨#[]⟩) (k + 1)) ∧ Below W0.heap.size W0 wr) (fun _ ii _ => P - (intOf ii).toNat)
     case atStart => exact ⟨k + 1, 0, by go_num, rfl, by omega, by omega, by omega, rfl, Below.refl _ _⟩
     case round =>
       obtain ⟨j, q, rfl, rfl, hq, hj, hkj, HR, hbr⟩ := hrel
       have a0 := (hbr.cell (p := ⟨nb, 0, none⟩) hz).trans hc0
       have a1 := (hbr.cell (p := ⟨nb, 1, none⟩) hz).trans hc1
       have a2 := (hbr.cell (p := ⟨nb, 2, none⟩) hz).trans hc2
       have a3 := (hbr.cell (p := ⟨nb, 3, none⟩) hz).trans hc3
       have hzr := hbr.size
       have hwr : Below w.heap.size w wr := hW0.trans (hbr.mono hW0.size)
       clear hc0 hc1 hc2 hc3
       go_wp2_with fail
       refine Calls.mono (HP.out _) ?_
       rintro r w2 ⟨rfl, hb2⟩
       have hw2 : Below W0.heap.size W0 w2 := hbr.trans (hb2.mono hzr)
       have b0 := (hb2.cell (p := ⟨nb, 0, none⟩) (show nb < _ by omega)).trans a0
       have hww2 : Below w.heap.size w w2 := hwr.trans (hb2.mono hwr.size)
       have hzn2 : nb < w2.heap.size := by have := hb2.size; omega
       clear a0 a1 a2 a3 hb2
       by_cases hlt2 : q < P
       · have hst := bR_step e (P - q - 1) ⟨#[]⟩ j
         rw [show P - q - 1 + 1 = P - q from by omega, HR.out] at hst
         have HST := Lib.hid hst
         have hcall := HIH.out j w2 (by omega) hww2
         clear hst HR
         cases hr : bR e (.one false) j with
         | none =>
           rw [hr] at hcall HST
           have HZ : Hid (behV e k = -1) := by show _ = _; rw [HV.out, HST.out]; rfl
           have HC := Lib.hid hcall
           clear hcall HV HST hr
           go_wp2_with fail
           refine Calls.mono HC.out ?_
           rintro r w3 ⟨rfl, hb3⟩
           go_wp2_with fail
           go_ret
           exact ⟨ret_int HZ.out.symm, hww2.trans (hb3.mono hww2.size)⟩
         | some i2 =>
           rw [hr] at hcall HST
           obtain ⟨hb1', hb2'⟩ := bR_bound hr
           have hi2 := hb1' hj
           have hgt := (bGo_bound e _ _ _ _ hr).2.2 false rfl
           have HC := Lib.hid hcall
           clear hcall hr hb1'
           go_wp2_with fail
           refine Calls.mono HC.out ?_
           rintro r w3 ⟨rfl, hb3⟩
           have hbv : bVal (some i2) = (i2 : Int) := rfl
           go_wp2_with fail
           exact ⟨⟨i2, q + 1, rfl, by go_num, by omega, by omega, by omega, by rw [show P - (q + 1) = P - q - 1 from by omega]; exact HST.out.symm, hw2.trans (hb3.mono hw2.size)⟩, by simp [intOf]; omega⟩
       · have hqP : q = P := by omega
         have HZ : Hid (behV e k = (j : Int)) := by
           show _ = _
           have := HR.out
           rw [hqP, Nat.sub_self, bR_zero] at this
           rw [HV.out, ← this]; rfl
         go_wp2_with fail
         go_ret
         exact ⟨ret_int HZ.out.symm, hww2⟩
   · rw [h6] at HV
     go_enter Tryz.func47, Tryz.ntmps47
     go_wp2_with fail
     refine Calls.mono (HF.out _) ?_
     rintro r w1 ⟨rfl, hb1⟩
     obtain ⟨hcc, hff⟩ := bcell hb1
     have hbw1 : b < w1.heap.size := by have := hb1.size; omega
     go_wp2_with fail
     have hc0 : (w1.alloc (.cells #[.int .i64 x.op, .int .i64 x.n, .string x.s, .string x.t] 29)).cell? ⟨w1.heap.size, 0, none⟩ = some (.int .i64 x.op) := by simp
     have hc1 : (w1.alloc (.cells #[.int .i64 x.op, .int .i64 x.n, .string x.s, .string x.t] 29)).cell? ⟨w1.heap.size, 1, none⟩ = some (.int .i64 x.n) := by simp
     have hc2 : (w1.alloc (.cells #[.int .i64 x.op, .int .i64 x.n, .string x.s, .string x.t] 29)).cell? ⟨w1.heap.size, 2, none⟩ = some (.string x.s) := by simp
     have hc3 : (w1.alloc (.cells #[.int .i64 x.op, .int .i64 x.n, .string x.s, .string x.t] 29)).cell? ⟨w1.heap.size, 3, none⟩ = some (.string x.t) := by simp
     have hW0 : Below w.heap.size w (w1.alloc (.cells #[.int .i64 x.op, .int .i64 x.n, .string x.s, .string x.t] 29)) := hb1.alloc hb1.size _
     have hz : w1.heap.size < (w1.alloc (.cells #[.int .i64 x.op, .int .i64 x.n, .string x.s, .string x.t] 29)).heap.size := by simp
     generalize (w1.alloc (.cells #[.int .i64 x.op, .int .i64 x.n, .string x.s, .string x.t] 29)) = W0 at hc0 hc1 hc2 hc3 hW0 hz ⊢
     generalize w1.heap.size = nb at hc0 hc1 hc2 hc3 hz ⊢
     clear hb1 hcc hff hbw1
     go_loopw [1, 6, 7] (fun aa ll ii wr => ∃ (j q : Nat) (l : ByteArray), aa = .int .i64 j ∧ ll = .string l ∧ ii = .int .i64 q ∧ q ≤ P ∧ j ≤ e.length ∧ k + 1 + q ≤ j ∧ l.size ≤ 140737488351232 ∧ Hid (bR e (.more (P - q) true l) j = bR e (.more P true ⟨#[]⟩) (k + 1)) ∧ Below W0.heap.size W0 wr) (fun _ _ ii _ => P - (intOf ii).toNat)
     case atStart => exact ⟨k + 1, 0, ⟨#[]⟩, by go_num, rfl, rfl, by omega, by omega, by omega, Nat.zero_le _, rfl, Below.refl _ _⟩
     case round =>
       obtain ⟨j, q, l, rfl, rfl, rfl, hq, hj, hkj, hls, HR, hbr⟩ := hrel
       have a0 := (hbr.cell (p := ⟨nb, 0, none⟩) hz).trans hc0
       have a1 := (hbr.cell (p := ⟨nb, 1, none⟩) hz).trans hc1
       have a2 := (hbr.cell (p := ⟨nb, 2, none⟩) hz).trans hc2
       have a3 := (hbr.cell (p := ⟨nb, 3, none⟩) hz).trans hc3
       have hzr := hbr.size
       have hwr : Below w.heap.size w wr := hW0.trans (hbr.mono hW0.size)
       clear hc0 hc1 hc2 hc3
       go_wp2_with fail
       refine Calls.mono (HP.out _) ?_
       rintro r w2 ⟨rfl, hb2⟩
       have hw2 : Below W0.heap.size W0 w2 := hbr.trans (hb2.mono hzr)
       have b0 := (hb2.cell (p := ⟨nb, 0, none⟩) (show nb < _ by omega)).trans a0
       have hww2 : Below w.heap.size w w2 := hwr.trans (hb2.mono hwr.size)
       have hzn2 : nb < w2.heap.size := by have := hb2.size; omega
       clear a0 a1 a2 a3 hb2
       by_cases hlt2 : q < P
       · by_cases hje : j < e.length
         · obtain ⟨b', o', heq, hb', hcs'⟩ := (HS.out.below hww2).at_ hje
           cases heq
           obtain ⟨m, hm⟩ : ∃ m, e[j]? = some m := ⟨_, List.getElem?_eq_getElem hje⟩
           obtain ⟨d0, d1, d2, d3⟩ := hcs' j m hm
           have hom := HOK.out m (List.mem_of_getElem? hm)
           have hbw2 : b < w2.heap.size := by have := hww2.size; omega
           have HNO : Hid ((¬ m.op = 7 ∨ shapedT m = false ∨ sLate l m.s = true) → behV e k = -1) := fun h => by
             have := bR_rec_no e (P - q - 1) l hm h
             rw [show P - q - 1 + 1 = P - q from by omega, HR.out] at this
             rw [HV.out, this]; rfl
           have HMF : Hid (∀ W, Calls Tryz.prog 85 #[.agg #[.int .i64 m.op, .int .i64 m.n, .string m.s, .string m.t]] W fun e w' => e = .returned (.bool (shapedT m)) ∧ Below W.heap.size W w') := fun W => r2_Fields m.op m.n m.s m.t W hom.1 hom.2
           have HM := Lib.hid hm
           clear hcs' hm
           by_cases hm7 : m.op = 7
           · have em7 : (m.op != 7) = false := by simp [hm7]
             cases hms : shapedT m
             · have HZ : Hid (behV e k = -1) := HNO.out (.inr (.inl hms))
               rw [hms] at HMF
               clear hm7 hms
               go_wp2_with fail
               refine Calls.mono (HMF.out _) ?_
               rintro r w3 ⟨rfl, hb3⟩
               go_wp2_with fail
               go_ret
               exact ⟨ret_int HZ.out.symm, hww2.trans (hb3.mono hww2.size)⟩
             · rw [hms] at HMF
               have HTX : Hid (∀ W, Calls Tryz.prog 87 #[.string l, .string m.s] W fun e w' => e = .returned (.int .i64 (Lib.compareBytes l.data.toList m.s.data.toList)) ∧ Below W.heap.size W w') := fun W => r1_Texts l m.s W hls hom.1
               have HSL : Hid (sLate l m.s = decide (0 ≤ Lib.compareBytes l.data.toList m.s.data.toList)) := sLate_cmp l m.s
               have HM7 := Lib.hid hm7
               have HMS := Lib.hid hms
               clear hm7 hms
               generalize Lib.compareBytes l.data.toList m.s.data.toList = cb at HTX HSL
               by_cases hcb : 0 ≤ cb
               · have HZ : Hid (behV e k = -1) := HNO.out (.inr (.inr (by rw [HSL.out]; simp [hcb])))
                 go_wp2_with fail
                 refine Calls.mono (HMF.out _) ?_
                 rintro r w3 ⟨rfl, hb3⟩
                 have f0 := (hb3.cell (p := ⟨nb, 0, none⟩) (show nb < _ by omega)).trans b0
                 have g0 := (hb3.cell (p := ⟨b, o + j * 4, none⟩) (show b < _ by omega)).trans d0
                 have g2 := (hb3.cell (p := ⟨b, o + j * 4 + 2, none⟩) (show b < _ by omega)).trans d2
                 have hbw3 : b < w3.heap.size := by have := hb3.size; omega
                 have hw3 : Below w.heap.size w w3 := hww2.trans (hb3.mono hww2.size)
                 clear hb3
                 go_wp2_with fail
                 refine Calls.mono (HTX.out _) ?_
                 rintro r w4 ⟨rfl, hb4⟩
                 go_wp2_with fail
                 go_ret
                 exact ⟨ret_int HZ.out.symm, hw3.trans (hb4.mono hw3.size)⟩
               · have hst := bR_rec e (P - q - 1) l HM.out HM7.out HMS.out (by rw [HSL.out]; simp [hcb])
                 rw [show P - q - 1 + 1 = P - q from by omega, HR.out] at hst
                 have HST := Lib.hid hst
                 clear hst HR HNO
                 go_wp2_with fail
                 refine Calls.mono (HMF.out _) ?_
                 rintro r w3 ⟨rfl, hb3⟩
                 have f0 := (hb3.cell (p := ⟨nb, 0, none⟩) (show nb < _ by omega)).trans b0
                 have g0 := (hb3.cell (p := ⟨b, o + j * 4, none⟩) (show b < _ by omega)).trans d0
                 have g2 := (hb3.cell (p := ⟨b, o + j * 4 + 2, none⟩) (show b < _ by omega)).trans d2
                 have hbw3 : b < w3.heap.size := by have := hb3.size; omega
                 have hnw3 : nb < w3.heap.size := by have := hb3.size; omega
                 have hw3 : Below w.heap.size w w3 := hww2.trans (hb3.mono hww2.size)
                 have hw03 : Below W0.heap.size W0 w3 := hw2.trans (hb3.mono hw2.size)
                 clear hb3
                 go_wp2_with fail
                 refine Calls.mono (HTX.out _) ?_
                 rintro r w4 ⟨rfl, hb4⟩
                 have g2' := (hb4.cell (p := ⟨b, o + j * 4 + 2, none⟩) hbw3).trans g2
                 have hbw4 : b < w4.heap.size := by have := hb4.size; omega
                 have hw4 : Below w.heap.size w w4 := hw3.trans (hb4.mono hw3.size)
                 have hw04 : Below W0.heap.size W0 w4 := hw03.trans (hb4.mono hw03.size)
                 clear hb4
                 have hcall := HIH.out (j + 1) w4 (by omega) hw4
                 cases hr : bR e (.one false) (j + 1) with
                 | none =>
                   rw [hr] at hcall HST
                   have HZ : Hid (behV e k = -1) := by show _ = _; rw [HV.out, HST.out]; rfl
                   have HC := Lib.hid hcall
                   clear hcall HV HST hr
                   go_wp2_with fail
                   refine Calls.mono HC.out ?_
                   rintro r w5 ⟨rfl, hb5⟩
                   go_wp2_with fail
                   go_ret
                   exact ⟨ret_int HZ.out.symm, hw4.trans (hb5.mono hw4.size)⟩
                 | some i2 =>
                   rw [hr] at hcall HST
                   obtain ⟨hb1', hb2'⟩ := bR_bound hr
                   have hi2 := hb1' hje
                   have hgt := (bGo_bound e _ _ _ _ hr).2.2 false rfl
                   have HC := Lib.hid hcall
                   clear hcall hr hb1'
                   go_wp2_with fail
                   refine Calls.mono HC.out ?_
                   rintro r w5 ⟨rfl, hb5⟩
                   have hbv : bVal (some i2) = (i2 : Int) := rfl
                   go_wp2_with fail
                   exact ⟨⟨i2, q + 1, m.s, rfl, rfl, by go_num, by omega, by omega, by omega, hom.1, by rw [show P - (q + 1) = P - q - 1 from by omega]; exact HST.out.symm, hw04.trans (hb5.mono hw04.size)⟩, by simp [intOf]; omega⟩
           · have HZ : Hid (behV e k = -1) := HNO.out (.inl hm7)
             have em7 : (m.op != 7) = true := by simp [hm7]
             clear hm7
             go_wp2_with fail
             go_ret
             exact ⟨ret_int HZ.out.symm, hww2⟩
         · have HZ : Hid (behV e k = -1) := by
             show _ = _
             have := bR_more_out e (P - q - 1) true l (show e.length ≤ j by omega)
             rw [show P - q - 1 + 1 = P - q from by omega, HR.out] at this
             rw [HV.out, this]; rfl
           go_wp2_with fail
           go_ret
           exact ⟨ret_int HZ.out.symm, hww2⟩
       · have hqP : q = P := by omega
         have HZ : Hid (behV e k = (j : Int)) := by
           show _ = _
           have := HR.out
           rw [hqP, Nat.sub_self, bR_zero] at this
           rw [HV.out, ← this]; rfl
         go_wp2_with fail
         go_ret
         exact ⟨ret_int HZ.out.symm, hww2⟩
theorem r2_Behind (e : List Nd) : ∀ m, R2Ok e m := by
 intro m
 induction m using Nat.strongRecOn with
 | _ m ih =>
   intro at_ A c w hm hl hok hsl
   by_cases ho : at_ < 0 ∨ (e.length : Int) ≤ at_
   · exact r2_Behind_out e at_ A c w hl ho
   · obtain ⟨k, rfl⟩ : ∃ k : Nat, at_ = k := ⟨at_.toNat, by omega⟩
     have hlt : k < e.length := by omega
     obtain ⟨x, hx⟩ : ∃ x, e[k]? = some x := ⟨_, List.getElem?_eq_getElem hlt⟩
     cases hs : shapedT x
     · exact r2_Behind_bad e k A c w hok hsl hlt x hx hs
     · exact r2_Behind_good e k A c w hl hok hsl hlt x hx hs (ih _ (by omega))
end Go.Proofs.YtbggbcnfkcadjaaGreatDoor
namespace Go.Proofs.YtbggbcnfkcadjaaGreatDoor
open Go.RowKit
theorem treeErr_beh (e : List Nd) : treeErr e = if 200 < e.length then 4 else if behV e 0 = (e.length : Int) then 0 else 1 := by
 unfold treeErr
 rw [show ((0 : Int)) = ((0 : Nat) : Int) from rfl, behV_nat, bR_one_len e false (Nat.zero_le _)]
 split
 · rfl
 · cases h : bR e (.one false) 0 with
   | none =>
     rw [if_neg (by simp), if_neg (by show ¬ (-1 : Int) = _; omega)]
   | some j =>
     by_cases hj : j = e.length
     · rw [if_pos (by rw [hj]), if_pos (by rw [hj]; rfl)]
     · rw [if_neg (by simpa using hj), if_neg (by show ¬ (j : Int) = _; omega)]
set_option maxRecDepth 100000 in
set_option maxHeartbeats 1600000 in
theorem r2_Fault (e : List Nd) (A : Option Addr) (c : Nat) (w : World) (hm : e.length ≤ 9223372036854775807) (hok : NdOk e) (hsl : NdSl w w.heap.size A e) :
   Calls Tryz.prog 25 #[.slice A e.length c] w fun r w' => r = .returned (.int .i64 (treeErr e)) ∧ Below w.heap.size w w' := by
 rw [treeErr_beh]
 by_cases h : 200 < e.length
 · rw [if_pos h]
   clear hsl
   go_enter Tryz.func25, Tryz.ntmps25
   go_wp2_with fail
   go_ret
   exact ⟨rfl, Below.refl _ _⟩
 · rw [if_neg h]
   have HB := Lib.hid (r2_Behind e _ 0 A c w (Nat.le_refl _) (by omega) hok hsl)
   clear hsl hok
   by_cases hq : behV e 0 = (e.length : Int)
   · rw [if_pos hq]
     rw [hq] at HB
     have hne : ((e.length : Int) != (e.length : Int)) = false := by simp
     clear hq
     go_enter Tryz.func25, Tryz.ntmps25
     go_wp2_with fail
     refine Calls.mono HB.out ?_
     rintro r w1 ⟨rfl, hb1⟩
     go_wp2_with fail
     go_ret
     exact ⟨rfl, hb1⟩
   · rw [if_neg hq]
     have hne : (behV e 0 != (e.length : Int)) = true := by simp [hq]
     clear hq
     go_enter Tryz.func25, Tryz.ntmps25
     go_wp2_with fail
     refine Calls.mono HB.out ?_
     rintro r w1 ⟨rfl, hb1⟩
     go_wp2_with fail
     go_ret
     exact ⟨rfl, hb1⟩
end Go.Proofs.YtbggbcnfkcadjaaGreatDoor
