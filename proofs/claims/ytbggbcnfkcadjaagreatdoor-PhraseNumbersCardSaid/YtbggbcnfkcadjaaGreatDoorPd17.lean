/-
  THE WALKS: tree.behind.
  THE WALKS: tree.Check, Skip, End.
  THE WALKS: phrase.Print.
  ARGUMENTS that are lists of nodes, opened, with numbers that stay in 64 bits; the table of the powers of ten.
  PLAIN LAWS: the words of an expression can be spelt.
  THE WALKS: (*parser).rel.
  A MAP of signs and what they stand for.
  THE WALKS: (*parser).chain.
  THE WALKS: (*parser).either, both, sum, prod.
  THE WALKS: (*parser).number, named, atom.
-/
import Derived.Test.YtbggbcnfkcadjaaGreatDoorPd16
import Derived.Test.YtbggbcnfkcadjaaGreatDoorPd01
import Derived.Test.YtbggbcnfkcadjaaGreatDoorPd15
import Derived.Test.YtbggbcnfkcadjaaGreatDoorPd03
import Derived.Test.YtbggbcnfkcadjaaGreatDoorPd05
import Derived.Test.YtbggbcnfkcadjaaGreatDoorPd07
import Derived.Test.YtbggbcnfkcadjaaGreatDoorPd06
import Derived.Maps.OwnSet
import Derived.StringKeys
import Derived.Maps.Views
import Derived.Deep.LoopGhost
import Derived.Test.YtbggbcnfkcadjaaGreatDoorPd08
import Derived.Test.YtbggbcnfkcadjaaGreatDoorPd02
namespace Go.Proofs.YtbggbcnfkcadjaaGreatDoor
open Go.RowKit
def BehOk (e : List Nd) (f i : Nat) : Prop := ∀ (w : World) (A : Option Addr) (c : Nat) (fld : Bool), 2 * (e.length - i) ≤ f → e.length ≤ c → c ≤ 9223372036854775807 → i ≤ 9223372036854775807 → NdOk e → NdSl w w.heap.size A e →
 Calls Tryz.prog 38 #[.slice A e.length c, .int .i64 i, .bool fld] w fun r w' => r = .returned (.int .i64 (bVal (bGo e f (.one fld) i))) ∧ Below w.heap.size w w'
set_option maxRecDepth 100000 in
set_option maxHeartbeats 4000000 in
theorem beh_out (e : List Nd) (f i : Nat) (h : e.length ≤ i) : BehOk e f i := by
 intro w A c fld hf hc hcm him hok hsl
 have HV : Hid (bGo e f (.one fld) i = none) := by
   show _ = _
   cases f <;> simp [bGo, List.getElem?_eq_none h]
 go_enter Tryz.func38, Tryz.ntmps38
 go_wp2_with fail
 go_ret
 exact ⟨ret_int (by rw [HV.out]; rfl), Below.refl _ _⟩
set_option maxRecDepth 100000 in
set_option maxHeartbeats 4000000 in
theorem beh_bad (e : List Nd) (f i : Nat) (x : Nd) (hx : e[i]? = some x) (hsh : shapedT x = false) : BehOk e (f + 1) i := by
 intro w A c fld hf hc hcm him hok hsl
 have hil : i < e.length := (List.getElem?_eq_some_iff.1 hx).1
 obtain ⟨b, o, rfl, hb, hcs⟩ := hsl.at_ hil
 obtain ⟨d0, d1, d2, d3⟩ := hcs i x hx
 obtain ⟨hxs, hxt⟩ := hok x (List.mem_of_getElem? hx)
 have HV : Hid (bGo e (f + 1) (.one fld) i = none) := by show _ = _; simp [bGo, hx, hsh]
 clear hcs hok hsl hx
 go_enter Tryz.func38, Tryz.ntmps38
 go_wp2_with (go_at_call 79; refine (tree_shaped x.op x.n x.s x.t _ hxs hxt).mono ?_; rintro r w1 ⟨rfl, hb1⟩)
 go_ret
 exact ⟨ret_int (by rw [HV.out]; rfl), hb1⟩
set_option maxRecDepth 100000 in
set_option maxHeartbeats 4000000 in
theorem beh_no (e : List Nd) (f i : Nat) (x : Nd) (hx : e[i]? = some x) (hsh : shapedT x = true) (w : World) (A : Option Addr) (c : Nat) (fld : Bool) (hfld : (x.op == 7) ≠ fld)
   (_hf : 2 * (e.length - i) ≤ f + 1) (_hc : e.length ≤ c) (_hcm : c ≤ 9223372036854775807) (_him : i ≤ 9223372036854775807) (hok : NdOk e) (hsl : NdSl w w.heap.size A e) :
   Calls Tryz.prog 38 #[.slice A e.length c, .int .i64 i, .bool fld] w fun r w' => r = .returned (.int .i64 (bVal (bGo e (f + 1) (.one fld) i))) ∧ Below w.heap.size w w' := by
 have hil : i < e.length := (List.getElem?_eq_some_iff.1 hx).1
 obtain ⟨b, o, rfl, hb, hcs⟩ := hsl.at_ hil
 obtain ⟨d0, d1, d2, d3⟩ := hcs i x hx
 obtain ⟨hxs, hxt⟩ := hok x (List.mem_of_getElem? hx)
 have HV : Hid (bGo e (f + 1) (.one fld) i = none) := by show _ = _; simp [bGo, hx, hsh, hfld]
 clear hcs hok hsl hx
 cases fld with
 | false =>
   have p7 : (x.op == 7) = true := by simpa using hfld
   clear hfld
   go_enter Tryz.func38, Tryz.ntmps38
   go_wp2_with (go_at_call 79; refine (tree_shaped x.op x.n x.s x.t _ hxs hxt).mono ?_; rintro r w1 ⟨rfl, hb1⟩; obtain ⟨hcc, hff⟩ := bcell hb1)
   go_ret
   exact ⟨ret_int (by rw [HV.out]; rfl), hb1⟩
 | true =>
   have p7 : (x.op == 7) = false := by simpa using hfld
   clear hfld
   go_enter Tryz.func38, Tryz.ntmps38
   go_wp2_with (go_at_call 79; refine (tree_shaped x.op x.n x.s x.t _ hxs hxt).mono ?_; rintro r w1 ⟨rfl, hb1⟩; obtain ⟨hcc, hff⟩ := bcell hb1)
   go_ret
   exact ⟨ret_int (by rw [HV.out]; rfl), hb1⟩
set_option maxRecDepth 100000 in
set_option maxHeartbeats 4000000 in
theorem beh_yes (e : List Nd) (f i : Nat) (x : Nd) (hx : e[i]? = some x) (hsh : shapedT x = true) (ih : ∀ f', f' ≤ f → ∀ i', BehOk e f' i') (w : World) (A : Option Addr) (c : Nat) (fld : Bool) (hfld : (x.op == 7) = fld)
   (hf : 2 * (e.length - i) ≤ f + 1) (hc : e.length ≤ c) (hcm : c ≤ 9223372036854775807) (him : i ≤ 9223372036854775807) (hok : NdOk e) (hsl : NdSl w w.heap.size A e) :
   Calls Tryz.prog 38 #[.slice A e.length c, .int .i64 i, .bool fld] w fun r w' => r = .returned (.int .i64 (bVal (bGo e (f + 1) (.one fld) i))) ∧ Below w.heap.size w w' := by
 have hil : i < e.length := (List.getElem?_eq_some_iff.1 hx).1
 obtain ⟨b, o, rfl, hb, hcs⟩ := hsl.at_ hil
 obtain ⟨d0, d1, d2, d3⟩ := hcs i x hx
 obtain ⟨hxs, hxt⟩ := hok x (List.mem_of_getElem? hx)
 have HV : Hid (bGo e (f + 1) (.one fld) i = bGo e f (.more (ndParts x).toNat (x.op == 6) ⟨#[]⟩) (i + 1)) := by show _ = _; simp [bGo, hx, hsh, hfld]
 have HS := Lib.hid hsl
 have HOK := Lib.hid hok
 have HI := Lib.hid ih
 have hdl : decide (e.length ≤ i) = false := by simp; omega
 have hdi : decide ((i : Int) < 0) = false := by simp
 obtain ⟨P, hP⟩ := Int.eq_ofNat_of_zero_le (shapedT_parts x hsh)
 have htp : ∀ W, Calls Tryz.prog 80 #[.agg #[.int .i64 x.op, .int .i64 x.n, .string x.s, .string x.t]] W fun e w' => e = .returned (.int .i64 (P : Int)) ∧ Below W.heap.size W w' := fun W => by
   rw [← hP]; exact tree_parts x.op x.n x.s x.t W
 have HTP := Lib.hid htp
 have HPP : Hid ((ndParts x).toNat = P) := by show _ = _; rw [hP]; rfl
 clear hcs hok hsl hx ih htp hP
 subst hfld
 go_enter Tryz.func38, Tryz.ntmps38
 go_wp2_with (first
   | (go_at_call 79; refine (tree_shaped x.op x.n x.s x.t _ hxs hxt).mono ?_; rintro r w1 ⟨rfl, hb1⟩; obtain ⟨hcc, hff⟩ := bcell hb1)
   | (go_at_call 80; refine (HTP.out _).mono ?_; rintro r w2 ⟨rfl, hb2⟩))
 have hz1 := hb1.size
 have hz2 : w1.heap.size + 1 ≤ w2.heap.size := by have := hb2.size; simpa using this
 have hw2 : Below w.heap.size w w2 := (hb1.alloc hb1.size _).trans (hb2.mono (by simp; omega))
 have hn2 : w2.cell? ⟨w1.heap.size, 0, none⟩ = some (.int .i64 x.op) := by rw [hb2.cell (p := ⟨w1.heap.size, 0, none⟩) (by simp)]; simp [go_sem]
 have HN2 := Lib.hid hn2
 clear hn2 hcc hff
 go_loopw [1, 8, 43] (fun at_ last kk wr => ∃ (k c2 fk a : Nat) (l : ByteArray), at_ = .int .i64 a ∧ kk = .int .i64 k ∧ last = .string l ∧ k + c2 = P ∧ i + 1 ≤ a ∧ a ≤ e.length ∧ k ≤ a ∧ fk ≤ f ∧ 2 * (e.length - a) + 1 ≤ fk ∧
     Hid (bGo e f (.more P (x.op == 6) ⟨#[]⟩) (i + 1) = bGo e fk (.more c2 (x.op == 6) l) a) ∧ Below w2.heap.size w2 wr)
   (fun _ _ kk _ => P - (intOf kk).toNat)
 case atStart => exact ⟨0, P, f, i + 1, ⟨#[]⟩, by go_num, rfl, rfl, by omega, by omega, by omega, by omega, by omega, by omega, rfl, Below.refl _ _⟩
 case round =>
   obtain ⟨k, c2, fk, a, l, rfl, rfl, rfl, hkc, hia, hal, hka, hff2, hfk, HK, hbr⟩ := hrel
   have hzr := hbr.size
   have hnr : wr.cell? ⟨w1.heap.size, 0, none⟩ = some (.int .i64 x.op) := (hbr.cell (p := ⟨w1.heap.size, 0, none⟩) (by simp; omega)).trans HN2.out
   have hwr : Below w.heap.size w wr := hw2.trans (hbr.mono (by omega))
   by_cases hkP : k < P
   · obtain ⟨c3, rfl⟩ : ∃ c3, c2 = c3 + 1 := ⟨c2 - 1, by omega⟩
     obtain ⟨fk2, rfl⟩ : ∃ fk2, fk = fk2 + 1 := ⟨fk - 1, by omega⟩
     by_cases hae : e.length ≤ a
     · have HVN : Hid (bGo e (f + 1) (.one (x.op == 7)) i = none) := by
         show _ = _
         rw [HV.out, HPP.out, HK.out]; simp [bGo, List.getElem?_eq_none hae]
       go_wp2_with fail
       go_ret
       exact ⟨ret_int (by rw [HVN.out]; rfl), hwr⟩
     · have hal2 : a < e.length := by omega
       obtain ⟨m, hm⟩ : ∃ m, e[a]? = some m := ⟨_, List.getElem?_eq_getElem hal2⟩
       have hcs : ∀ i x, e[i]? = some x → NdAt wr b (o + i * 4) x := by
         obtain ⟨b', o', h1, _, h2⟩ := (HS.out.below hwr).at_ hal2
         injection h1 with h1; injection h1 with h1 h3; subst h1 h3; exact h2
       obtain ⟨m0, m1, m2, m3⟩ := hcs a m hm
       have HM := Lib.hid hm
       have hih := fun (W : World) (r : Bool) (hW : Below wr.heap.size wr W) => HI.out fk2 (by omega) a W (some ⟨b, o, none⟩) c r (by omega) hc hcm (by omega) HOK.out (((HS.out.below hwr).below (hW.mono (by have := hwr.size; omega))).more (Nat.le_trans hwr.size hW.size))
       have HIH := Lib.hid hih
       clear hcs hm hih m1 m3 m0
       cases hr : (x.op == 6) with
       | true =>
         by_cases hlate : sLate l m.s = true
         · have HVN : Hid (bGo e (f + 1) (.one (x.op == 7)) i = none) := by
             have h1 := HM.out
             show _ = _
             rw [HV.out, HPP.out, HK.out, hr]; simp [bGo, h1, hlate]
           unfold sLate at hlate
           go_wp2_with fail
           go_ret
           exact ⟨ret_int (by rw [HVN.out]; rfl), hwr⟩
         · have hlate : sLate l m.s = false := by simpa using hlate
           have HK2 : ∀ v, bGo e fk2 (.one true) a = v → Hid (bGo e (f + 1) (.one (x.op == 7)) i = match v with | none => none | some j => bGo e fk2 (.more c3 true m.s) j) := by
             intro v hv
             have h1 := HM.out
             show _ = _
             rw [HV.out, HPP.out, HK.out, hr]; simp [bGo, h1, hv, hlate]
             cases v <;> rfl
           have HK3 := Lib.hid HK2
           clear HK2
           unfold sLate at hlate
           cases hv : bGo e fk2 (.one true) a with
           | none =>
             have HC : ∀ W, Below wr.heap.size wr W → Calls Tryz.prog 38 #[.slice (some ⟨b, o, none⟩) e.length c, .int .i64 a, .bool true] W fun r w' => r = .returned (.int .i64 (-1)) ∧ Below W.heap.size W w' := fun W hW => by
               have := HIH.out W true hW; rw [hv] at this; exact this
             have HC2 := Lib.hid HC
             have HVN := HK3.out none hv
             clear HC hv
             go_wp2_with (go_at_call 38; refine (HC2.out _ (Below.refl _ _)).mono ?_; rintro r w3 ⟨rfl, hb3⟩)
             go_ret
             exact ⟨ret_int (by rw [HVN.out]; rfl), hwr.trans (hb3.mono hwr.size)⟩
           | some j =>
             obtain ⟨hjl, _, haj⟩ := bGo_bound e fk2 (.one true) a j hv
             have hjl := hjl hal
             have haj := haj _ rfl
             have HC : ∀ W, Below wr.heap.size wr W → Calls Tryz.prog 38 #[.slice (some ⟨b, o, none⟩) e.length c, .int .i64 a, .bool true] W fun r w' => r = .returned (.int .i64 (j : Int)) ∧ Below W.heap.size W w' := fun W hW => by
               have := HIH.out W true hW; rw [hv] at this; exact this
             have HC2 := Lib.hid HC
             have HKN : Hid (bGo e f (.more P true ⟨#[]⟩) (i + 1) = bGo e fk2 (.more c3 true m.s) j) := by
               have := HK3.out _ hv
               have h3 := HV.out
               rw [HPP.out, hr] at h3
               exact h3.symm.trans this
             clear HC hv
             go_wp2_with (go_at_call 38; refine (HC2.out _ (Below.refl _ _)).mono ?_; rintro r w3 ⟨rfl, hb3⟩)
             go_roundw
             case rel => exact ⟨k + 1, c3, fk2, j, m.s, rfl, by go_num, rfl, by omega, by omega, by omega, by omega, by omega, by omega, HKN, hbr.trans (hb3.mono hbr.size)⟩
             case measure => simp [intOf]; omega
       | false =>
         have HK2 : ∀ v, bGo e fk2 (.one false) a = v → Hid (bGo e (f + 1) (.one (x.op == 7)) i = match v with | none => none | some j => bGo e fk2 (.more c3 false l) j) := by
           intro v hv
           have h1 := HM.out
           show _ = _
           rw [HV.out, HPP.out, HK.out, hr]; simp [bGo, h1, hv]
           cases v <;> rfl
         have HK3 := Lib.hid HK2
         clear HK2
         cases hv : bGo e fk2 (.one false) a with
         | none =>
           have HC : ∀ W, Below wr.heap.size wr W → Calls Tryz.prog 38 #[.slice (some ⟨b, o, none⟩) e.length c, .int .i64 a, .bool false] W fun r w' => r = .returned (.int .i64 (-1)) ∧ Below W.heap.size W w' := fun W hW => by
             have := HIH.out W false hW; rw [hv] at this; exact this
           have HC2 := Lib.hid HC
           have HVN := HK3.out none hv
           clear HC hv
           go_wp2_with (go_at_call 38; refine (HC2.out _ (Below.refl _ _)).mono ?_; rintro r w3 ⟨rfl, hb3⟩)
           go_ret
           exact ⟨ret_int (by rw [HVN.out]; rfl), hwr.trans (hb3.mono hwr.size)⟩
         | some j =>
           obtain ⟨hjl, _, haj⟩ := bGo_bound e fk2 (.one false) a j hv
           have hjl := hjl hal
           have haj := haj _ rfl
           have HC : ∀ W, Below wr.heap.size wr W → Calls Tryz.prog 38 #[.slice (some ⟨b, o, none⟩) e.length c, .int .i64 a, .bool false] W fun r w' => r = .returned (.int .i64 (j : Int)) ∧ Below W.heap.size W w' := fun W hW => by
             have := HIH.out W false hW; rw [hv] at this; exact this
           have HC2 := Lib.hid HC
           have HKN : Hid (bGo e f (.more P false ⟨#[]⟩) (i + 1) = bGo e fk2 (.more c3 false l) j) := by
             have := HK3.out _ hv
             have h3 := HV.out
             rw [HPP.out, hr] at h3
             exact h3.symm.trans this
           clear HC hv
           go_wp2_with (go_at_call 38; refine (HC2.out _ (Below.refl _ _)).mono ?_; rintro r w3 ⟨rfl, hb3⟩)
           go_roundw
           case rel => exact ⟨k + 1, c3, fk2, j, l, rfl, by go_num, rfl, by omega, by omega, by omega, by omega, by omega, by omega, HKN, hbr.trans (hb3.mono hbr.size)⟩
           case measure => simp [intOf]; omega
   · obtain rfl : c2 = 0 := by omega
     have HVS : Hid (bGo e (f + 1) (.one (x.op == 7)) i = some a) := by
       show _ = _
       rw [HV.out, HPP.out, HK.out]
       cases fk <;> simp [bGo]
     go_wp2_with fail
     go_ret
     exact ⟨ret_int (by rw [HVS.out]; rfl), hwr⟩
end Go.Proofs.YtbggbcnfkcadjaaGreatDoor
namespace Go.Proofs.YtbggbcnfkcadjaaGreatDoor
open Go.RowKit
theorem beh_all (e : List Nd) : ∀ f i, BehOk e f i := by
 intro f
 induction f using Nat.strongRecOn with
 | _ f ih =>
   intro i
   by_cases hi : e.length ≤ i
   · exact beh_out e f i hi
   · have hil : i < e.length := by omega
     cases f with
     | zero => intro w A c fld hf; omega
     | succ f =>
       have hx : e[i]? = some e[i] := List.getElem?_eq_getElem hil
       cases hsh : shapedT e[i] with
       | false => exact beh_bad e f i _ hx hsh
       | true =>
         intro w A c fld hf hc hcm him hok hsl
         by_cases h7 : (e[i].op == 7) = fld
         · exact beh_yes e f i _ hx hsh (fun f' hf i' => ih f' (by omega) i') w A c fld h7 hf hc hcm him hok hsl
         · exact beh_no e f i _ hx hsh w A c fld h7 hf hc hcm him hok hsl
set_option maxHeartbeats 800000 in
theorem tree_Check (e : List Nd) (A : Option Addr) (c : Nat) (w : World) (hc : e.length ≤ c) (hcm : c ≤ 9223372036854775807) (hok : NdOk e) (hsl : NdSl w w.heap.size A e) :
   Calls Tryz.prog 21 #[.slice A e.length c] w fun r w' => r = .returned (errV (treeErr e)) ∧ Below w.heap.size w w' := by
 by_cases h : 200 < e.length
 · have HV : Hid (treeErr e = 4) := by show _ = _; simp [treeErr, h]
   clear hok hsl
   go_enter Tryz.func21, Tryz.ntmps21
   go_wp2_with fail
   go_ret
   exact ⟨ret_val (by rw [HV.out]; rfl), Below.refl _ _⟩
 · have hb := beh_all e (2 * e.length) 0 w A c false (by omega) hc hcm (by omega) hok hsl
   cases hv : bGo e (2 * e.length) (.one false) 0 with
   | none =>
     have HV : Hid (treeErr e = 1) := by show _ = _; simp [treeErr, h, hv]
     rw [hv] at hb
     have HB : Hid (Calls Tryz.prog 38 #[.slice A e.length c, .int .i64 0, .bool false] w fun r w' => r = .returned (.int .i64 (-1)) ∧ Below w.heap.size w w') := hb
     clear hv hb hok hsl
     have hne : ((-1 : Int) != (e.length : Int)) = true := by rw [bne_iff_ne]; omega
     go_enter Tryz.func21, Tryz.ntmps21
     go_wp2_with (go_at_call 38; refine HB.out.mono ?_; rintro r w1 ⟨rfl, hb1⟩)
     go_ret
     exact ⟨ret_val (by rw [HV.out]; rfl), hb1⟩
   | some j =>
     have HV : Hid (treeErr e = if j = e.length then 0 else 1) := by show _ = _; simp [treeErr, h, hv]
     rw [hv] at hb
     have HB : Hid (Calls Tryz.prog 38 #[.slice A e.length c, .int .i64 0, .bool false] w fun r w' => r = .returned (.int .i64 (j : Int)) ∧ Below w.heap.size w w') := hb
     clear hv hb hok hsl
     by_cases hj : j = e.length
     · have hne : ((j : Int) != (e.length : Int)) = false := by rw [hj]; simp
       have HJ := Lib.hid hj
       clear hj
       go_enter Tryz.func21, Tryz.ntmps21
       go_wp2_with (go_at_call 38; refine HB.out.mono ?_; rintro r w1 ⟨rfl, hb1⟩)
       go_ret
       exact ⟨ret_val (by rw [HV.out, if_pos HJ.out]; rfl), hb1⟩
     · have hne : ((j : Int) != (e.length : Int)) = true := by rw [bne_iff_ne]; omega
       go_enter Tryz.func21, Tryz.ntmps21
       go_wp2_with (go_at_call 38; refine HB.out.mono ?_; rintro r w1 ⟨rfl, hb1⟩)
       go_ret
       exact ⟨ret_val (by rw [HV.out, if_neg hj]; rfl), hb1⟩
end Go.Proofs.YtbggbcnfkcadjaaGreatDoor
namespace Go.Proofs.YtbggbcnfkcadjaaGreatDoor
set_option maxRecDepth 100000
open Go.RowKit Go.Sort
def printP (e : List Nd) : List Tk × Int := if treeErr e ≠ 0 then ([], treeErr e) else if 300 < (wordsW e).length then ([], 4) else (wordsW e, 0)
abbrev TabP (w : World) : Prop := Lib.TabIs Tryz.prog w "internal/strconv.uint64pow10" .u64 Lib.pow10Tab
structure PrBack (w : World) (r : Ending) (w' : World) (q : List Tk × Int) : Prop where
 ex : ∃ A c, r = .returned (.tuple #[.slice A q.1.length c, errV q.2]) ∧ q.1.length ≤ c ∧ c ≤ 9223372036854775807 ∧ TkSl w' w'.heap.size A q.1
 below : RowKit.Below w.heap.size w w'
theorem PrBack.none {w w' : World} {k : Int} (h : RowKit.Below w.heap.size w w') : PrBack w (.returned (.tuple #[.slice none 0 0, errV k])) w' ([], k) := ⟨⟨Option.none, 0, rfl, by simp, by simp, fun h => absurd rfl h⟩, h⟩
theorem print_start {w w1 : World} {b o c : Nat} {e : List Nd} (hsl : NdSl w w.heap.size (some ⟨b, o, none⟩) e) (hb : b < w.heap.size) (hc : e.length ≤ c) (hcm : c ≤ 9223372036854775807) (htab : TabP w) (hb1 : RowKit.Below w.heap.size w w1) :
   Pt w1.heap.size (w1.alloc (.cells #[.slice (some ⟨b, o, none⟩) e.length c, .slice none 0 0] 57)) ⟨b, o, c, .slice none 0 0⟩ e [] := by
 have hb2 : RowKit.Below w1.heap.size w1 (w1.alloc (.cells #[.slice (some ⟨b, o, none⟩) e.length c, .slice none 0 0] 57)) := by (repeat (first | assumption | exact Below.refl _ _ | apply Below.drew | apply below_drewN | (refine Below.alloc ?_ (by first | exact Nat.le_refl _ | omega | (simp; done) | (simp; omega)) _)))
 refine ⟨Blk.new w1 _ _, World.ownsRow_nil _ _ _ _, ((hsl.below hb1).more hb1.size).below hb2, hc, hcm, Nat.lt_of_lt_of_le hb hb1.size, fun w' h => ?_⟩
 exact Lib.tabBelow_of_tabIs htab w' (hb1.trans ((hb2.trans h).mono hb1.size))
set_option maxHeartbeats 3200000 in
theorem phrase_Print (e : List Nd) (A : Option Addr) (c : Nat) (w : World) (hc : e.length ≤ c) (hcm : c ≤ 9223372036854775807) (hsl : NdSl w w.heap.size A e) (hok : NdOk e) (hk : NumK e) (htab : TabP w) :
   Calls Tryz.prog 10 #[.slice A e.length c] w fun r w' => PrBack w r w' (printP e) := by
 have HT := Lib.hid (tree_Check e A c w hc hcm hok hsl)
 by_cases h0 : treeErr e = 0
 · obtain ⟨hl, hex⟩ := (tree_iff e).1 h0
   have hne := ex_nonil hex
   obtain ⟨b, o, rfl, hb, -⟩ := hsl hne
   rw [h0] at HT
   have HST := Lib.hid (fun w1 (h : RowKit.Below w.heap.size w w1) => print_start hsl hb hc hcm htab h)
   have HNX := Lib.hid (fun pb => next_all pb _ e (show (200 : Nat) ≤ 1000 by decide) hl hex hk)
   have hwl := words_len _ e (Nat.le_refl _) hex
   have HQ : Hid (printP e = if 300 < (wordsW e).length then ([], 4) else (wordsW e, 0)) := by show _ = _; unfold printP; rw [if_neg (by simp [h0])]
   clear hsl hok hk htab h0 hex hne hb
   go_enter Tryz.func10, Tryz.ntmps10
   go_wp2_with fail
   refine HT.out.mono ?_
   rintro r w1 ⟨rfl, hb1⟩
   have HB1 := Lib.hid hb1
   have HP := Lib.hid (HST.out w1 hb1)
   clear hb1 HT
   go_wp2_with fail
   refine (HNX.out w1.heap.size _ _ [] [] (wordsW e) (by rw [List.append_nil]; exact HP.out) (by simp; omega) rfl).mono ?_
   rintro r w2 ⟨rfl, S2, hP2, hF2⟩
   obtain ⟨-, A2, c2, hv2, hn2, hm2, hs2⟩ := own_formG tk_ok hP2.row
   have k1 : w2.cell? ⟨w1.heap.size, 1, none⟩ = some (.slice A2 (wordsW e).length c2) := by rw [← hv2]; exact hP2.blk.cell 1
   have hb2 : RowKit.Below w1.heap.size w1 w2 := by
     have h1 : RowKit.Below w1.heap.size w1 (w1.alloc (.cells #[.slice (some ⟨b, o, none⟩) e.length c, .slice none 0 0] 57)) := by (repeat (first | assumption | exact Below.refl _ _ | apply Below.drew | apply below_drewN | (refine Below.alloc ?_ (by first | exact Nat.le_refl _ | omega | (simp; done) | (simp; omega)) _)))
     exact h1.trans (Fr.below HP.out hF2)
   have HB2 := Lib.hid (HB1.out.trans (hb2.mono HB1.out.size))
   have HS := Lib.hid hs2
   clear hP2 hF2 hv2 hs2 hb2 HP HB1
   by_cases h3 : 300 < (wordsW e).length
   · have t3 : decide ((300 : Int) < ((wordsW e).length : Int)) = true := by simp; omega
     have HQ2 : Hid (printP e = ([], 4)) := by show _ = _; rw [HQ.out, if_pos h3]
     clear h3
     go_wp2_with fail
     refine bodyPost_ret (v := .tuple #[.slice none 0 0, .iface 33 (.int .i64 4)]) (by simp [results, Tryz.results10, go_sem]) rfl ?_
     rw [HQ2.out]
     exact PrBack.none (k := 4) HB2.out
   · have t3 : decide ((300 : Int) < ((wordsW e).length : Int)) = false := by simp; omega
     have HQ2 : Hid (printP e = (wordsW e, 0)) := by show _ = _; rw [HQ.out, if_neg h3]
     clear h3
     go_wp2_with fail
     refine bodyPost_ret (v := .tuple #[.slice A2 (wordsW e).length c2, .nilIface]) (by simp [results, Tryz.results10, go_sem]) rfl ?_
     rw [HQ2.out]
     exact ⟨⟨A2, c2, rfl, hn2, hm2, HS.out⟩, HB2.out⟩
 · have HQ : Hid (printP e = ([], treeErr e)) := by show _ = _; unfold printP; rw [if_pos h0]
   rw [HQ.out]
   have ht : (treeErr e != 0) = true := by simpa using h0
   clear hsl hok hk htab h0 HQ
   generalize treeErr e = k at HT ht
   go_enter Tryz.func10, Tryz.ntmps10
   go_wp2_with fail
   refine HT.out.mono ?_
   rintro r w1 ⟨rfl, hb1⟩
   have HB1 := Lib.hid hb1
   clear hb1 HT
   go_wp2_with fail
   refine bodyPost_ret (v := .tuple #[.slice none 0 0, errV k]) (by simp [results, Tryz.results10, go_sem]) rfl ?_
   exact PrBack.none HB1.out
end Go.Proofs.YtbggbcnfkcadjaaGreatDoor
namespace Go.Proofs.YtbggbcnfkcadjaaGreatDoor
set_option maxRecDepth 100000
open Go.ChangeShapes Go.WideShapes Go.RowKit Go.Deep
theorem cells_intN : Tryz.prog.cellsOf 3 = 1 := by kernel_rfl
theorem nd_okN : EncOk Nd.cells 4 := ⟨fun _ => rfl, by omega, fun x u hu => by
 simp only [Nd.cells, List.mem_cons, List.not_mem_nil, or_false] at hu
 rcases hu with rfl | rfl | rfl | rfl <;> rfl⟩
theorem SlG.ndsN {w : World} {B : Nat} {A : Option Addr} {xs : List Nd} (h : SlG Nd.cells 4 w B A xs) : NdSl w B A xs := fun hne => by
 obtain ⟨b, o, e, hb, hc⟩ := h hne
 exact ⟨b, o, e, hb, fun i x hx => ⟨hc i x hx 0 _ rfl, hc i x hx 1 _ rfl, hc i x hx 2 _ rfl, hc i x hx 3 _ rfl⟩⟩
theorem i64_ofN {a : Int} (h : (Lit.int .i64 a).wf = true) : -9223372036854775808 ≤ a ∧ a ≤ 9223372036854775807 := by
 unfold Lit.wf at h
 rw [Bool.and_eq_true, decide_eq_true_eq, decide_eq_true_eq] at h
 exact h
section
variable {H : Type} {enc : TypeId × Value → H} {W : World}
theorem nodeN_trod {n : Nat} {cs : List Value} {y : DataW H × List MemPlace} (h : DataW.trod enc Tryz.prog W 0 (fun _ => true) true n 29 cs = some y) :
   ∃ x : Nd, cs = x.cells ∧ y.1 = ndData x ∧ (-9223372036854775808 ≤ x.n ∧ x.n ≤ 9223372036854775807) := by
 obtain ⟨x, h1, h2⟩ := node_trod h
 refine ⟨x, h1, h2, ?_⟩
 obtain ⟨xs, m, _, hy, hlen, hxl, hf⟩ := DataW.trod_struct Tryz.underlying29 h
 subst h1
 match xs, hxl with
 | [y0, y1, y2, y3], _ =>
   have e1 : DataW.trod enc Tryz.prog W 0 (fun _ => true) true m 3 ((x.cells.drop 1).take (Tryz.prog.cellsOf 3)) = some y1 := hf 1 _ rfl
   simp only [cells_intN, Nd.cells, List.drop_zero, List.drop_succ_cons, List.take_succ_cons, List.take_zero] at e1
   obtain ⟨a1, q1, r1, i1⟩ := DataW.trod_int Tryz.underlying3 e1
   simp only [List.cons.injEq, and_true, Value.int.injEq, true_and] at q1
   rw [q1]
   exact i64_ofN i1
theorem open_nodesN {b0 : Nat} {v : Value} {d : DataW H} {p : List MemPlace} (hv : Value.okWide Tryz.prog W .any b0 22 v) (h : DataW.Trod enc Tryz.prog W 0 (fun _ => true) true 22 v d p) :
   ∃ (A : Option Addr) (xs : List Nd) (c : Nat), v = .slice A xs.length c ∧ xs.length ≤ c ∧ c ≤ 9223372036854775807 ∧ NdSl W W.heap.size A xs ∧ NumK xs ∧ (xs = [] ∨ ∃ sp, d = .slice (xs.map ndData) sp) := by
 obtain ⟨a0, len, cap, rfl⟩ := okWide_slice Tryz.underlying22 hv
 obtain ⟨fuel, hf⟩ := h
 obtain ⟨A, xs, c, h1, h2, h3, h4, h5, h6⟩ := open_gen (Good := fun x : Nd => -9223372036854775808 ≤ x.n ∧ x.n ≤ 9223372036854775807) Tryz.underlying22 cells_node nd_okN (fun _ _ _ h => nodeN_trod h) hf
 simp only [Value.cells, List.cons.injEq, and_true] at h1
 exact ⟨A, xs, c, h1, h2, h3, h4.ndsN, fun x hx _ => h5 x hx, h6⟩
end
end Go.Proofs.YtbggbcnfkcadjaaGreatDoor
namespace Go.Proofs.YtbggbcnfkcadjaaGreatDoor
open Go.RowKit
def SpT (t : Tk) : Prop := (speltP t).2 = true
theorem bare_of {kind : Int} {c : UInt8} {r : List UInt8} (h3 : ¬ kind = 3) (h4 : ¬ kind = 4) (h : (c == 32 || c == 34 || c == 63) = false) (hw : wordP (c :: r) = .ok kind (c :: r) (c :: r).length) {s : ByteArray} (hs : s.toList = c :: r) : SpT ⟨kind, s, 0⟩ := by
 show (speltP _).2 = true
 rw [speltP_bare h3 h4]
 show bareP kind s.toList = true
 rw [hs]
 unfold bareP
 dsimp only
 rw [h, hw]
 simp
theorem sp_nm {s : ByteArray} (h : nameErr s.toList = 0) : SpT ⟨1, s, 0⟩ := by
 obtain ⟨h1, h2, c, r, e, hc⟩ := nameErr_zero h
 rw [e] at h1
 have e32 : letB 32 = false := by decide
 have e34 : letB 34 = false := by decide
 have e63 : letB 63 = false := by decide
 refine bare_of (by decide) (by decide) ?_ ?_ e
 · simp only [Bool.or_eq_false_iff, beq_eq_false_iff_ne]
   exact ⟨⟨(by rintro rfl; rw [e32] at hc; cases hc), (by rintro rfl; rw [e34] at hc; cases hc)⟩, (by rintro rfl; rw [e63] at hc; cases hc)⟩
 · have hd : digB c = false := by
     cases hd : digB c with
     | false => rfl
     | true =>
       unfold letB letterI at hc
       unfold digB digitI at hd
       simp only [Bool.or_eq_true, Bool.and_eq_true, decide_eq_true_eq, beq_iff_eq] at hc hd
       omega
   rw [wordP, if_neg (by rw [hd]; simp), if_pos hc]
   unfold namedP
   rw [h1, if_pos (by rw [← e]; exact h)]
   rfl
theorem sp_tx {s : ByteArray} (h : textErr s.toList = 0) : SpT ⟨3, s, 0⟩ := by
 show (speltP _).2 = true
 rw [speltP_text rfl, if_pos h]
theorem sp_sl {s : ByteArray} (h : nameErr s.toList = 0) : SpT ⟨4, s, 0⟩ := by
 show (speltP _).2 = true
 rw [speltP_slot rfl]; exact decide_eq_true h
theorem sp_sg {l : List UInt8} (h : bareP 5 l = true) : SpT (tSg l) := by
 show (speltP _).2 = true
 rw [speltP_bare (x := tSg l) (show ¬ (5 : Int) = 3 by decide) (show ¬ (5 : Int) = 4 by decide)]
 show bareP 5 (bsOf l).toList = true
 rw [bsOf_list]; exact h
theorem sp_nl {l : List UInt8} (h : nameErr l = 0) : SpT (tNm l) := sp_nm (s := bsOf l) (by rw [bsOf_list]; exact h)
theorem dec_len : ∀ (k u : Nat), u < 10 ^ (k + 1) → (Lib.decDigits u).length ≤ k + 1 := by
 intro k
 induction k with
 | zero => intro u h; rw [Lib.decDigits, dif_pos (by omega)]; simp
 | succ k ih =>
   intro u h
   rw [Lib.decDigits]
   split
   · simp
   · have := ih (u / 10) (by rw [Nat.pow_succ] at h; exact Nat.div_lt_of_lt_mul (by omega))
     simp; omega
theorem dec_all (u : Nat) : ∀ c ∈ Lib.decDigits u, digB c = true := by
 induction u using Nat.strongRecOn with
 | _ u ih =>
   intro c hc
   have hd : ∀ v, v < 10 → digB (UInt8.ofNat (48 + v)) = true := by
     intro v hv
     have : (UInt8.ofNat (48 + v)).toNat = 48 + v := by simp; omega
     unfold digB digitI
     rw [this]
     simp; omega
   rw [Lib.decDigits] at hc
   split at hc
   · rw [List.mem_singleton] at hc; subst hc; exact hd _ (by omega)
   · rename_i h
     rcases List.mem_append.1 hc with hc | hc
     · exact ih _ (by omega) c hc
     · rw [List.mem_singleton] at hc; subst hc; exact hd _ (by omega)
theorem dec_top (u : Nat) (h : 1 ≤ u) : ∃ c l, Lib.decDigits u = c :: l ∧ c ≠ 48 := by
 induction u using Nat.strongRecOn with
 | _ u ih =>
   rw [Lib.decDigits]
   by_cases h10 : u < 10
   · rw [dif_pos h10]
     refine ⟨_, _, rfl, fun e => ?_⟩
     have hc : (UInt8.ofNat (48 + u)).toNat = 48 + u := by simp; omega
     rw [e] at hc
     have : (48 : UInt8).toNat = 48 := by decide
     omega
   · rw [dif_neg h10]
     obtain ⟨c, l, e, h1⟩ := ih (u / 10) (by omega) (by omega)
     rw [e]; exact ⟨c, l ++ _, rfl, h1⟩
theorem word_dec {u : Nat} (h : u ≤ 9223372036854775808) {c : UInt8} {r : List UInt8} (e : Lib.decDigits u = c :: r) : wordP (c :: r) = .ok 2 (c :: r) (c :: r).length := by
 have hall := dec_all u
 have hlen := dec_len 18 u (by have : (10 : Nat) ^ (18 + 1) = 10000000000000000000 := by decide
                               omega)
 have htop := dec_top u
 have ht : (c :: r).takeWhile digB = c :: r := tw_self _ (List.all_eq_true.2 (by rw [← e]; exact hall))
 rw [wordP, if_pos (hall c (by rw [e]; simp))]
 unfold numP
 rw [ht]
 by_cases h0 : u = 0
 · subst h0
   have : Lib.decDigits 0 = [48] := by rw [Lib.decDigits]; rfl
   rw [this] at e
   injection e with e1 e2
   subst e1 e2
   rfl
 · obtain ⟨c', l', e', hc'⟩ := htop (by omega)
   rw [e] at e'
   injection e' with e1 e2
   subst e1 e2
   have hd : (c :: r).dropWhile (· == 48) = c :: r := by rw [List.dropWhile_cons_of_neg (by simpa using hc')]
   rw [hd, if_neg (by rw [← e]; omega), if_neg (by simp)]
theorem sp_nu {n : Int} (h0 : 0 ≤ n) (h : n ≤ 9223372036854775808) : SpT ⟨2, bsOf (Lib.itoa n), 0⟩ := by
 have hi : Lib.itoa n = Lib.decDigits n.toNat := by unfold Lib.itoa; rw [if_neg (by omega)]
 obtain ⟨c, l, e, h1, h2⟩ := dec_head n.toNat
 refine bare_of (c := c) (r := l) (by decide) (by decide) ?_ (word_dec (u := n.toNat) (by omega) e) (by rw [bsOf_list, hi, e])
 simp only [Bool.or_eq_false_iff, beq_eq_false_iff_ne]
 refine ⟨⟨?_, ?_⟩, ?_⟩ <;> rintro rfl <;> revert h1 h2 <;> decide
theorem all_cons {p : Tk → Prop} {t : Tk} {l : List Tk} (h1 : p t) (h2 : ∀ u ∈ l, p u) : ∀ u ∈ t :: l, p u := fun u hu => (List.mem_cons.1 hu).elim (fun e => e ▸ h1) (h2 u)
theorem all_app {p : Tk → Prop} {k l : List Tk} (h1 : ∀ u ∈ k, p u) (h2 : ∀ u ∈ l, p u) : ∀ u ∈ k ++ l, p u := fun u hu => (List.mem_append.1 hu).elim (h1 u) (h2 u)
theorem all_nil {p : Tk → Prop} : ∀ u ∈ ([] : List Tk), p u := fun u hu => by cases hu
theorem sp_part {e : List Nd} (h : ∀ t ∈ wordsW e, SpT t) (l : Nat) : ∀ t ∈ partT l e, SpT t := by
 unfold partT
 split
 · exact h
 · exact all_cons (sp_sg (by decide)) (all_app h (all_cons (sp_sg (by decide)) all_nil))
theorem sp_items : ∀ (ps : List (List Nd)) (fst : Bool), (∀ p ∈ ps, ∀ t ∈ itemT p, SpT t) → ∀ t ∈ itemsT fst ps, SpT t
 | [], _, _ => all_nil
 | p :: ps, fst, h => by
   unfold itemsT
   refine all_app ?_ (all_app (h p (by simp)) (sp_items ps false fun q hq => h q (by simp [hq])))
   split
   · exact all_nil
   · exact all_cons (sp_sg (by decide)) all_nil
theorem sp_leaf {n : Nd} (hs : shapedT n = true) (ho : n.op = 1 ∨ n.op = 2 ∨ n.op = 3 ∨ n.op = 4 ∨ n.op = 8) (hk : n.op = 2 → -9223372036854775808 ≤ n.n ∧ n.n ≤ 9223372036854775807) : ∀ t ∈ leafT n, SpT t := by
 have hv : n.op ≠ 8 → shapedV n = true := fun h8 => by
   unfold shapedT at hs
   rw [if_pos (by omega)] at hs
   exact val_one (by simpa using hs)
 unfold leafT
 rcases ho with h | h | h | h | h
 · rw [if_pos h]
   refine all_cons (sp_nl ?_) all_nil
   split <;> decide
 · rw [if_neg (by omega), if_pos h]
   have := hk h
   unfold numT
   split
   · exact all_cons (sp_sg (by decide)) (all_cons (sp_nu (by omega) (by omega)) all_nil)
   · exact all_cons (sp_nu (by omega) (by omega)) all_nil
 · rw [if_neg (by omega), if_neg (by omega), if_pos h]
   have hv := hv (by omega)
   unfold shapedV at hv
   rw [if_neg (by omega), if_neg (by omega), if_pos h] at hv
   simp only [Bool.and_eq_true, beq_iff_eq, List.isEmpty_iff] at hv
   exact all_cons (sp_tx hv.2) all_nil
 · rw [if_neg (by omega), if_neg (by omega), if_neg (by omega), if_pos h]
   have hv := hv (by omega)
   unfold shapedV at hv
   rw [if_neg (by omega), if_neg (by omega), if_neg (by omega), if_pos h] at hv
   simp only [Bool.and_eq_true, beq_iff_eq] at hv
   exact all_cons (sp_nm hv.1.2) (all_cons (sp_sg (by decide)) (all_cons (sp_tx hv.2) all_nil))
 · rw [if_neg (by omega), if_neg (by omega), if_neg (by omega), if_neg (by omega)]
   have hv : variableB n.s.toList = true := by
     unfold shapedT at hs
     rw [if_neg (by omega), if_neg (by omega), if_pos h] at hs
     simp only [Bool.and_eq_true, beq_iff_eq, List.isEmpty_iff] at hs
     exact hs.2
   by_cases hq : ∃ l, n.s.toList = 63 :: l
   · obtain ⟨l, hq⟩ := hq
     have hvt : varT n.s = [⟨4, bsOf l, 0⟩] := by unfold varT; rw [hq]; rfl
     rw [hvt]
     rw [hq] at hv
     have hv : (if (63 : UInt8) = 63 then nameErr l == 0 else nameErr (63 :: l) == 0 && !reserved (63 :: l)) = true := hv
     rw [if_pos rfl] at hv
     exact all_cons (sp_sl (by rw [bsOf_list]; simpa using hv)) all_nil
   · have h63 : ∀ l, n.s.toList ≠ 63 :: l := fun l e => hq ⟨l, e⟩
     obtain ⟨-, hn⟩ := name_nores hv h63
     have hvt : varT n.s = [⟨1, n.s, 0⟩] := by
       unfold varT
       split
       · rename_i l e; exact absurd e (h63 l)
       · rfl
     rw [hvt]
     exact all_cons (sp_nm hn) all_nil
theorem sp_btw {o : Int} (h : o = 12 ∨ o = 11 ∨ o = 17 ∨ o = 18 ∨ o = 19) : SpT (tSg (btwW o)) := by
 rcases h with h | h | h | h | h <;> rw [h] <;> exact sp_sg (by decide)
theorem sp_nmd {o : Int} (h : o = 14 ∨ o = 15 ∨ o = 16 ∨ o = 20 ∨ o = 21 ∨ o = 24 ∨ o = 23 ∨ o = 25 ∨ o = 26 ∨ o = 27) : SpT (nmdW (btwW o)) := by
 rcases h with h | h | h | h | h | h | h | h | h | h <;> rw [h] <;> first | exact sp_sg (l := btwW _) (by decide) | exact sp_nl (l := btwW _) (by decide)
set_option maxHeartbeats 3200000 in
theorem words_sp : ∀ (N : Nat) (xs : List Nd), xs.length ≤ N → Ex (.one false) xs → NumK xs → ∀ t ∈ wordsW xs, SpT t := by
 intro N
 induction N with
 | zero => intro xs hl h; cases h; simp at hl
 | succ N ih =>
   intro xs hl h hk
   have h' := h
   obtain ⟨n, ps, rfl, h7, hs, hc, hx⟩ := ex_cutW h
   have hw := words_node h' hc hx
   have h7' : ¬ n.op = 7 := by simpa using h7
   have hall := exk_all hx
   have hkp : ∀ p ∈ ps, NumK p := fun p hp x hxp h2 => hk x (by simp only [List.mem_cons, List.mem_flatten]; exact .inr ⟨p, hp, hxp⟩) h2
   have hp : n.op ≠ 6 → ∀ p ∈ ps, ∀ t ∈ wordsW p, SpT t := fun h6 p hp => by
     refine ih p (parts_lt hl p hp) ?_ (hkp p hp)
     have := hall p hp; rwa [show (n.op == 6) = false from by simpa using h6] at this
   have hg : n.op ≠ 6 → ∀ (k l : Nat), ∀ t ∈ partT l (ps.getD k []), SpT t := fun h6 k l => by
     refine sp_part ?_ l
     rcases Nat.lt_or_ge k ps.length with hk | hk
     · rw [List.getD_eq_getElem?_getD, List.getElem?_eq_getElem hk]; exact hp h6 _ (List.getElem_mem hk)
     · rw [List.getD_eq_getElem?_getD, List.getElem?_eq_none hk]
       have : wordsW [] = [] := rfl
       show ∀ t ∈ wordsW [], SpT t
       rw [this]; exact all_nil
   rw [hw]
   have hname : n.op = 21 ∨ n.op = 22 ∨ n.op = 24 → nameErr n.s.toList = 0 := fun h => by
     unfold shapedT at hs
     rw [if_neg (by omega), if_neg (by omega), if_neg (by omega), if_pos (by omega)] at hs
     simp only [Bool.and_eq_true, beq_iff_eq] at hs
     exact hs.2
   unfold nodeT
   dsimp only
   split
   · rename_i o
     exact all_cons (sp_nl (by decide)) (all_app (hg (by omega) _ _) (all_cons (sp_nl (by decide)) (all_app (hg (by omega) _ _) (all_cons (sp_nl (by decide)) (hg (by omega) _ _)))))
   split
   · rename_i o
     exact all_app (hg (by omega) _ _) (all_cons (sp_btw o) (hg (by omega) _ _))
   split
   · rename_i o
     exact all_app (hg (by omega) _ _) (all_cons (sp_nmd (by omega)) (hg (by omega) _ _))
   split
   · rename_i o
     refine all_app (hg (by omega) _ _) (all_cons (sp_nmd (by omega)) (all_cons ?_ all_nil))
     by_cases h23 : n.op = 23
     · rw [if_pos h23]
       unfold shapedT at hs
       rw [if_neg (by omega), if_neg (by omega), if_neg (by omega), if_neg (by omega), if_pos h23] at hs
       simp only [Bool.and_eq_true, beq_iff_eq] at hs
       exact sp_tx hs.2
     · rw [if_neg h23]; exact sp_nm (hname (by omega))
   split
   · rename_i o
     exact all_cons (sp_sg (by decide)) (hg (by omega) _ _)
   split
   · rename_i o
     exact all_cons (sp_sg (by decide)) (hg (by omega) _ _)
   split
   · rename_i o
     exact all_app (hg (by omega) _ _) (all_cons (sp_sg (by decide)) (all_cons (sp_nm (hname (by omega))) all_nil))
   split
   · rename_i o
     exact all_app (hg (by omega) _ _) (all_cons (sp_sg (by decide)) (all_cons (sp_nmd (by omega)) (all_cons (sp_sg (by decide)) (all_app (hg (by omega) _ _) (all_cons (sp_sg (by decide)) all_nil)))))
   split
   · rename_i o
     refine all_cons (sp_sg (by decide)) (all_app (sp_items ps true fun p hpp => ?_) (all_cons (sp_sg (by decide)) all_nil))
     unfold itemT
     have := hall p hpp
     rw [show (n.op == 6) = false from by simp [o]] at this
     obtain ⟨m, qs, rfl, e7, -⟩ := ex_cutW this
     rw [if_neg (by simpa using e7)]
     exact hp (by omega) _ hpp
   split
   · rename_i o
     refine all_cons (sp_sg (by decide)) (all_app (sp_items ps true fun p hpp => ?_) (all_cons (sp_sg (by decide)) all_nil))
     unfold itemT
     have := hall p hpp
     rw [show (n.op == 6) = true from by simp [o]] at this
     obtain ⟨g, v, rfl, g7, gn, -, hv⟩ := fld_cut this
     rw [if_pos (by simpa using g7)]
     have := parts_lt hl _ hpp
     exact all_cons (sp_nm gn) (all_cons (sp_sg (by decide)) (ih v (by simp at this; omega) hv fun x hxv h2 => hkp _ hpp x (by simp [hxv]) h2))
   · rename_i o1 o2 o3 o4 o5 o6 o7 o8 o9 o10
     refine sp_leaf hs ?_ fun h2 => hk n (by simp) h2
     apply Classical.byContradiction
     intro hno
     have hm : ndParts n = -1 := by unfold ndParts; rw [if_neg (by omega), if_neg (by omega), if_neg (by omega), if_neg (by omega), if_neg (by omega)]
     unfold shapedT at hs
     rw [hm, if_neg (by omega), if_neg (by omega), if_neg (by omega), if_neg (by omega), if_neg (by omega)] at hs
     simp at hs
end Go.Proofs.YtbggbcnfkcadjaaGreatDoor
namespace Go.Proofs.YtbggbcnfkcadjaaGreatDoor
set_option maxRecDepth 100000
open Go.RowKit Go.Sort
theorem l_eq : (⟨#[61, 61]⟩ : ByteArray).toList = [61, 61] := bsOf_list [61, 61]
theorem l_lt : (⟨#[60]⟩ : ByteArray).toList = [60] := bsOf_list [60]
theorem l_le : (⟨#[60, 61]⟩ : ByteArray).toList = [60, 61] := bsOf_list [60, 61]
theorem l_in : (⟨#[105, 110]⟩ : ByteArray).toList = [105, 110] := bsOf_list [105, 110]
theorem l_has : (⟨#[104, 97, 115]⟩ : ByteArray).toList = [104, 97, 115] := bsOf_list [104, 97, 115]
theorem l_is : (⟨#[105, 115]⟩ : ByteArray).toList = [105, 115] := bsOf_list [105, 115]
theorem l_like : (⟨#[108, 105, 107, 101]⟩ : ByteArray).toList = [108, 105, 107, 101] := bsOf_list [108, 105, 107, 101]
set_option maxHeartbeats 12800000 in
theorem ph_rel (x : Px) (f : Nat) (h4 : Does x 159 (pa f (.ch 4))) : Does x 134 (pa (f + 1) .rel) := by
 intro w i hx hB hi hnb
 have S0 := St.start hx hB hi
 have HS0 := Lib.hid S0
 have HLT := Lib.hid hB.lt
 have H4 := Lib.hid h4
 obtain ⟨Q, hQ⟩ : ∃ Q, pa (f + 1) .rel (x.ts.drop i) = Q := ⟨_, rfl⟩
 rw [hQ] at hnb ⊢
 have HN := Lib.hid hnb
 have HQ0 : Hid ((pa f (.ch 4) (x.ts.drop i)).bind (fun e r => if relOp r ≠ 0 then (pa f (.ch 4) r.tail).bind fun e2 r2 => .ok (opX (relOp r) (e ++ e2)) r2 else if relWd r ≠ 0 then wordR (if relWd r = 23 then 3 else 1) r.tail fun s r2 => .ok (opS (relWd r) s e) r2 else .ok e r) = Q) := hQ
 clear hx hB hi h4 hnb S0 hQ
 go_enter Tryz.func134, Tryz.ntmps134
 go_wp2_with fail
 refine (HS0.out.call H4.out HN.out trivial HQ0.out).mono ?_
 rintro r w1 (⟨k, j, rfl, hp⟩ | ⟨A1, c1, e1, j1, rfl, E1, S1, o1, q1, l1, b1⟩)
 · have HP := Lib.hid hp
   clear hp
   go_wp2_with fail
   exact ⟨rfl, HP.out⟩
 have HE1 := Lib.hid E1
 have XS1 := Lib.hid S1
 have XQ1 := Lib.hid q1
 have HL1 : Hid (e1.length ≤ 300) := l1
 have HG1 := Lib.hid b1
 clear E1 S1 q1 l1 b1 o1  HS0 HQ0
 have q0 : (if relOp (x.ts.drop j1) ≠ 0 then (pa f (.ch 4) (x.ts.drop j1).tail).bind (fun e2 r2 => .ok (opX (relOp (x.ts.drop j1)) (e1 ++ e2)) r2) else if relWd (x.ts.drop j1) ≠ 0 then wordR (if relWd (x.ts.drop j1) = 23 then 3 else 1) (x.ts.drop j1).tail (fun s r2 => .ok (opS (relWd (x.ts.drop j1)) s e1) r2) else .ok e1 (x.ts.drop j1)) = Q := XQ1.out
 have HR := Lib.hid q0
 clear q0 XQ1
 cases b0 : hdS [61, 61] (x.ts.drop j1) with
 | true =>
   have HB0 := Lib.hid b0
   clear b0
   have ro : relOp (x.ts.drop j1) = 14 := by simp [relOp, HB0.out]
   have q := HR.out
   rw [ro, if_pos (by decide), tail_drop'] at q
   have HQr := Lib.hid q
   clear q ro HR
   go_wp2_with fail
   refine (XS1.out.take_yes ⟨#[61, 61]⟩ _ l_eq (by rw [XS1.out.sg (c := 61) (r := [61]) (by decide)]; exact HB0.out)).mono ?_
   rintro r w2 ⟨rfl, S2, o2⟩
   have HE1_2 := Lib.hid (HE1.out.on o2 HLT.out)
   have XS2 := Lib.hid S2
   clear S2 o2 HE1 XS1
   go_wp2_with fail
   refine (XS2.out.call H4.out HN.out trivial HQr.out).mono ?_
   rintro r w3 (⟨k, j, rfl, hp⟩ | ⟨A3, c3, e3, j3, rfl, E3, S3, o3, q3, l3, b3⟩)
   · have HP := Lib.hid hp
     clear hp
     go_wp2_with fail
     exact ⟨rfl, HP.out⟩
   have HE1_3 := Lib.hid (HE1_2.out.on o3 HLT.out)
   have HE3 := Lib.hid E3
   have XS3 := Lib.hid S3
   have XQ3 := Lib.hid q3
   have HL3 : Hid (e3.length ≤ 300) := l3
   have HG3 := Lib.hid b3
   clear E3 S3 q3 l3 b3 o3 HE1_2 XS2 HQr
   go_wp2_with fail
   refine (XS3.out.op 14 22 [⟨A1, c1, e1⟩, ⟨A3, c3, e3⟩] #[.slice A1 e1.length c1, .slice A3 e3.length c3] rfl (mem2 HE1_3.out HE3.out) (by have := HL1.out; have := HL3.out; simp [catN]; omega) (by simp) (E := opX 14 (e1 ++ e3)) (by simp [catN, opX])).mono ?_
   rintro r w4 ⟨A4, c4, rfl, E4, S4, o4⟩
   have HF := Lib.hid (S4.fin E4 XQ3.out)
   clear E4 S4 o4
   generalize opX 14 (e1 ++ e3) = EE at HF ⊢
   go_wp2_with fail
   go_ret
   exact HF.out
 | false =>
   have HB0 := Lib.hid b0
   clear b0
   go_wp2_with fail
   refine (XS1.out.take_no ⟨#[61, 61]⟩ _ l_eq (by rw [XS1.out.sg (c := 61) (r := [61]) (by decide)]; exact HB0.out)).mono ?_
   rintro r w2 ⟨rfl, S2, o2⟩
   have HE1_2 := Lib.hid (HE1.out.on o2 HLT.out)
   have XS2 := Lib.hid S2
   clear S2 o2 HE1 XS1
   cases b1 : hdS [60] (x.ts.drop j1) with
   | true =>
     have HB1 := Lib.hid b1
     clear b1
     have ro : relOp (x.ts.drop j1) = 15 := by simp [relOp, HB0.out, HB1.out]
     have q := HR.out
     rw [ro, if_pos (by decide), tail_drop'] at q
     have HQr := Lib.hid q
     clear q ro HR
     go_wp2_with fail
     refine (XS2.out.take_yes ⟨#[60]⟩ _ l_lt (by rw [XS2.out.sg (c := 60) (r := []) (by decide)]; exact HB1.out)).mono ?_
     rintro r w3 ⟨rfl, S3, o3⟩
     have HE1_3 := Lib.hid (HE1_2.out.on o3 HLT.out)
     have XS3 := Lib.hid S3
     clear S3 o3 HE1_2 XS2
     go_wp2_with fail
     refine (XS3.out.call H4.out HN.out trivial HQr.out).mono ?_
     rintro r w4 (⟨k, j, rfl, hp⟩ | ⟨A4, c4, e4, j4, rfl, E4, S4, o4, q4, l4, b4⟩)
     · have HP := Lib.hid hp
       clear hp
       go_wp2_with fail
       exact ⟨rfl, HP.out⟩
     have HE1_4 := Lib.hid (HE1_3.out.on o4 HLT.out)
     have HE4 := Lib.hid E4
     have XS4 := Lib.hid S4
     have XQ4 := Lib.hid q4
     have HL4 : Hid (e4.length ≤ 300) := l4
     have HG4 := Lib.hid b4
     clear E4 S4 q4 l4 b4 o4 HE1_3 XS3 HQr
     go_wp2_with fail
     refine (XS4.out.op 15 22 [⟨A1, c1, e1⟩, ⟨A4, c4, e4⟩] #[.slice A1 e1.length c1, .slice A4 e4.length c4] rfl (mem2 HE1_4.out HE4.out) (by have := HL1.out; have := HL4.out; simp [catN]; omega) (by simp) (E := opX 15 (e1 ++ e4)) (by simp [catN, opX])).mono ?_
     rintro r w5 ⟨A5, c5, rfl, E5, S5, o5⟩
     have HF := Lib.hid (S5.fin E5 XQ4.out)
     clear E5 S5 o5
     generalize opX 15 (e1 ++ e4) = EE at HF ⊢
     go_wp2_with fail
     go_ret
     exact HF.out
   | false =>
     have HB1 := Lib.hid b1
     clear b1
     go_wp2_with fail
     refine (XS2.out.take_no ⟨#[60]⟩ _ l_lt (by rw [XS2.out.sg (c := 60) (r := []) (by decide)]; exact HB1.out)).mono ?_
     rintro r w3 ⟨rfl, S3, o3⟩
     have HE1_3 := Lib.hid (HE1_2.out.on o3 HLT.out)
     have XS3 := Lib.hid S3
     clear S3 o3 HE1_2 XS2
     cases b2 : hdS [60, 61] (x.ts.drop j1) with
     | true =>
       have HB2 := Lib.hid b2
       clear b2
       have ro : relOp (x.ts.drop j1) = 16 := by simp [relOp, HB0.out, HB1.out, HB2.out]
       have q := HR.out
       rw [ro, if_pos (by decide), tail_drop'] at q
       have HQr := Lib.hid q
       clear q ro HR
       go_wp2_with fail
       refine (XS3.out.take_yes ⟨#[60, 61]⟩ _ l_le (by rw [XS3.out.sg (c := 60) (r := [61]) (by decide)]; exact HB2.out)).mono ?_
       rintro r w4 ⟨rfl, S4, o4⟩
       have HE1_4 := Lib.hid (HE1_3.out.on o4 HLT.out)
       have XS4 := Lib.hid S4
       clear S4 o4 HE1_3 XS3
       go_wp2_with fail
       refine (XS4.out.call H4.out HN.out trivial HQr.out).mono ?_
       rintro r w5 (⟨k, j, rfl, hp⟩ | ⟨A5, c5, e5, j5, rfl, E5, S5, o5, q5, l5, b5⟩)
       · have HP := Lib.hid hp
         clear hp
         go_wp2_with fail
         exact ⟨rfl, HP.out⟩
       have HE1_5 := Lib.hid (HE1_4.out.on o5 HLT.out)
       have HE5 := Lib.hid E5
       have XS5 := Lib.hid S5
       have XQ5 := Lib.hid q5
       have HL5 : Hid (e5.length ≤ 300) := l5
       have HG5 := Lib.hid b5
       clear E5 S5 q5 l5 b5 o5 HE1_4 XS4 HQr
       go_wp2_with fail
       refine (XS5.out.op 16 22 [⟨A1, c1, e1⟩, ⟨A5, c5, e5⟩] #[.slice A1 e1.length c1, .slice A5 e5.length c5] rfl (mem2 HE1_5.out HE5.out) (by have := HL1.out; have := HL5.out; simp [catN]; omega) (by simp) (E := opX 16 (e1 ++ e5)) (by simp [catN, opX])).mono ?_
       rintro r w6 ⟨A6, c6, rfl, E6, S6, o6⟩
       have HF := Lib.hid (S6.fin E6 XQ5.out)
       clear E6 S6 o6
       generalize opX 16 (e1 ++ e5) = EE at HF ⊢
       go_wp2_with fail
       go_ret
       exact HF.out
     | false =>
       have HB2 := Lib.hid b2
       clear b2
       go_wp2_with fail
       refine (XS3.out.take_no ⟨#[60, 61]⟩ _ l_le (by rw [XS3.out.sg (c := 60) (r := [61]) (by decide)]; exact HB2.out)).mono ?_
       rintro r w4 ⟨rfl, S4, o4⟩
       have HE1_4 := Lib.hid (HE1_3.out.on o4 HLT.out)
       have XS4 := Lib.hid S4
       clear S4 o4 HE1_3 XS3
       cases b3 : hdN [105, 110] (x.ts.drop j1) with
       | true =>
         have HB3 := Lib.hid b3
         clear b3
         have ro : relOp (x.ts.drop j1) = 20 := by simp [relOp, HB0.out, HB1.out, HB2.out, HB3.out]
         have q := HR.out
         rw [ro, if_pos (by decide), tail_drop'] at q
         have HQr := Lib.hid q
         clear q ro HR
         go_wp2_with fail
         refine (XS4.out.take_yes ⟨#[105, 110]⟩ _ l_in (by rw [XS4.out.nm (c := 105) (r := [110]) (by decide)]; exact HB3.out)).mono ?_
         rintro r w5 ⟨rfl, S5, o5⟩
         have HE1_5 := Lib.hid (HE1_4.out.on o5 HLT.out)
         have XS5 := Lib.hid S5
         clear S5 o5 HE1_4 XS4
         go_wp2_with fail
         refine (XS5.out.call H4.out HN.out trivial HQr.out).mono ?_
         rintro r w6 (⟨k, j, rfl, hp⟩ | ⟨A6, c6, e6, j6, rfl, E6, S6, o6, q6, l6, b6⟩)
         · have HP := Lib.hid hp
           clear hp
           go_wp2_with fail
           exact ⟨rfl, HP.out⟩
         have HE1_6 := Lib.hid (HE1_5.out.on o6 HLT.out)
         have HE6 := Lib.hid E6
         have XS6 := Lib.hid S6
         have XQ6 := Lib.hid q6
         have HL6 : Hid (e6.length ≤ 300) := l6
         have HG6 := Lib.hid b6
         clear E6 S6 q6 l6 b6 o6 HE1_5 XS5 HQr
         go_wp2_with fail
         refine (XS6.out.op 20 22 [⟨A1, c1, e1⟩, ⟨A6, c6, e6⟩] #[.slice A1 e1.length c1, .slice A6 e6.length c6] rfl (mem2 HE1_6.out HE6.out) (by have := HL1.out; have := HL6.out; simp [catN]; omega) (by simp) (E := opX 20 (e1 ++ e6)) (by simp [catN, opX])).mono ?_
         rintro r w7 ⟨A7, c7, rfl, E7, S7, o7⟩
         have HF := Lib.hid (S7.fin E7 XQ6.out)
         clear E7 S7 o7
         generalize opX 20 (e1 ++ e6) = EE at HF ⊢
         go_wp2_with fail
         go_ret
         exact HF.out
       | false =>
         have HB3 := Lib.hid b3
         clear b3
         go_wp2_with fail
         refine (XS4.out.take_no ⟨#[105, 110]⟩ _ l_in (by rw [XS4.out.nm (c := 105) (r := [110]) (by decide)]; exact HB3.out)).mono ?_
         rintro r w5 ⟨rfl, S5, o5⟩
         have HE1_5 := Lib.hid (HE1_4.out.on o5 HLT.out)
         have XS5 := Lib.hid S5
         clear S5 o5 HE1_4 XS4
         cases b4 : hdN [104, 97, 115] (x.ts.drop j1) with
         | true =>
           have HB4 := Lib.hid b4
           clear b4
           have ro : relOp (x.ts.drop j1) = 0 := by simp [relOp, HB0.out, HB1.out, HB2.out, HB3.out]
           have rw_ : relWd (x.ts.drop j1) = 21 := by simp [relWd, HB4.out]
           have q := HR.out
           rw [ro, if_neg (by decide), rw_, if_pos (by decide), if_neg (by decide), tail_drop'] at q
           have HQr := Lib.hid q
           clear q ro rw_ HR
           go_wp2_with fail
           refine (XS5.out.take_yes ⟨#[104, 97, 115]⟩ _ l_has (by rw [XS5.out.nm (c := 104) (r := [97, 115]) (by decide)]; exact HB4.out)).mono ?_
           rintro r w6 ⟨rfl, S6, o6⟩
           have HE1_6 := Lib.hid (HE1_5.out.on o6 HLT.out)
           have XS6 := Lib.hid S6
           clear S6 o6 HE1_5 XS5
           go_wp2_with fail
           refine (XS6.out.word 1 (by decide) HQr.out).mono ?_
           rintro r w7 (⟨k, j, rfl, hp⟩ | ⟨t7, ht7, rfl, S7, o7, z7, kd7, q7⟩)
           · have HP := Lib.hid hp
             clear hp
             go_wp2_with fail
             exact ⟨rfl, HP.out⟩
           have HE1_7 := Lib.hid (HE1_6.out.on o7 HLT.out)
           have XS7 := Lib.hid S7
           have XQ7 := Lib.hid q7
           have HT7 := Lib.hid ht7
           have HZ7 := Lib.hid z7
           have HKD7 := Lib.hid kd7
           clear S7 q7 o7 ht7 z7 kd7 HE1_6 XS6 HQr
           go_wp2_with fail
           refine (XS7.out.node ⟨21, 0, t7.s, ⟨#[]⟩⟩ 22 [⟨A1, c1, e1⟩] #[.slice A1 e1.length c1] rfl (mem1 HE1_7.out) (by have := HL1.out; simp [catN]; omega) (by simp) (E := opS 21 t7.s e1) (by simp [catN, opS])).mono ?_
           rintro r w8 ⟨A8, c8, rfl, E8, S8, o8⟩
           have HF := Lib.hid (S8.fin E8 XQ7.out)
           clear E8 S8 o8
           generalize opS 21 t7.s e1 = EE at HF ⊢
           go_wp2_with fail
           go_ret
           exact HF.out
         | false =>
           have HB4 := Lib.hid b4
           clear b4
           go_wp2_with fail
           refine (XS5.out.take_no ⟨#[104, 97, 115]⟩ _ l_has (by rw [XS5.out.nm (c := 104) (r := [97, 115]) (by decide)]; exact HB4.out)).mono ?_
           rintro r w6 ⟨rfl, S6, o6⟩
           have HE1_6 := Lib.hid (HE1_5.out.on o6 HLT.out)
           have XS6 := Lib.hid S6
           clear S6 o6 HE1_5 XS5
           cases b5 : hdN [105, 115] (x.ts.drop j1) with
           | true =>
             have HB5 := Lib.hid b5
             clear b5
             have ro : relOp (x.ts.drop j1) = 0 := by simp [relOp, HB0.out, HB1.out, HB2.out, HB3.out]
             have rw_ : relWd (x.ts.drop j1) = 24 := by simp [relWd, HB4.out, HB5.out]
             have q := HR.out
             rw [ro, if_neg (by decide), rw_, if_pos (by decide), if_neg (by decide), tail_drop'] at q
             have HQr := Lib.hid q
             clear q ro rw_ HR
             go_wp2_with fail
             refine (XS6.out.take_yes ⟨#[105, 115]⟩ _ l_is (by rw [XS6.out.nm (c := 105) (r := [115]) (by decide)]; exact HB5.out)).mono ?_
             rintro r w7 ⟨rfl, S7, o7⟩
             have HE1_7 := Lib.hid (HE1_6.out.on o7 HLT.out)
             have XS7 := Lib.hid S7
             clear S7 o7 HE1_6 XS6
             go_wp2_with fail
             refine (XS7.out.word 1 (by decide) HQr.out).mono ?_
             rintro r w8 (⟨k, j, rfl, hp⟩ | ⟨t8, ht8, rfl, S8, o8, z8, kd8, q8⟩)
             · have HP := Lib.hid hp
               clear hp
               go_wp2_with fail
               exact ⟨rfl, HP.out⟩
             have HE1_8 := Lib.hid (HE1_7.out.on o8 HLT.out)
             have XS8 := Lib.hid S8
             have XQ8 := Lib.hid q8
             have HT8 := Lib.hid ht8
             have HZ8 := Lib.hid z8
             have HKD8 := Lib.hid kd8
             clear S8 q8 o8 ht8 z8 kd8 HE1_7 XS7 HQr
             go_wp2_with fail
             refine (XS8.out.node ⟨24, 0, t8.s, ⟨#[]⟩⟩ 22 [⟨A1, c1, e1⟩] #[.slice A1 e1.length c1] rfl (mem1 HE1_8.out) (by have := HL1.out; simp [catN]; omega) (by simp) (E := opS 24 t8.s e1) (by simp [catN, opS])).mono ?_
             rintro r w9 ⟨A9, c9, rfl, E9, S9, o9⟩
             have HF := Lib.hid (S9.fin E9 XQ8.out)
             clear E9 S9 o9
             generalize opS 24 t8.s e1 = EE at HF ⊢
             go_wp2_with fail
             go_ret
             exact HF.out
           | false =>
             have HB5 := Lib.hid b5
             clear b5
             go_wp2_with fail
             refine (XS6.out.take_no ⟨#[105, 115]⟩ _ l_is (by rw [XS6.out.nm (c := 105) (r := [115]) (by decide)]; exact HB5.out)).mono ?_
             rintro r w7 ⟨rfl, S7, o7⟩
             have HE1_7 := Lib.hid (HE1_6.out.on o7 HLT.out)
             have XS7 := Lib.hid S7
             clear S7 o7 HE1_6 XS6
             cases b6 : hdN [108, 105, 107, 101] (x.ts.drop j1) with
             | true =>
               have HB6 := Lib.hid b6
               clear b6
               have ro : relOp (x.ts.drop j1) = 0 := by simp [relOp, HB0.out, HB1.out, HB2.out, HB3.out]
               have rw_ : relWd (x.ts.drop j1) = 23 := by simp [relWd, HB4.out, HB5.out, HB6.out]
               have q := HR.out
               rw [ro, if_neg (by decide), rw_, if_pos (by decide), if_pos rfl, tail_drop'] at q
               have HQr := Lib.hid q
               clear q ro rw_ HR
               go_wp2_with fail
               refine (XS7.out.take_yes ⟨#[108, 105, 107, 101]⟩ _ l_like (by rw [XS7.out.nm (c := 108) (r := [105, 107, 101]) (by decide)]; exact HB6.out)).mono ?_
               rintro r w8 ⟨rfl, S8, o8⟩
               have HE1_8 := Lib.hid (HE1_7.out.on o8 HLT.out)
               have XS8 := Lib.hid S8
               clear S8 o8 HE1_7 XS7
               go_wp2_with fail
               refine (XS8.out.word 3 (by decide) HQr.out).mono ?_
               rintro r w9 (⟨k, j, rfl, hp⟩ | ⟨t9, ht9, rfl, S9, o9, z9, kd9, q9⟩)
               · have HP := Lib.hid hp
                 clear hp
                 go_wp2_with fail
                 exact ⟨rfl, HP.out⟩
               have HE1_9 := Lib.hid (HE1_8.out.on o9 HLT.out)
               have XS9 := Lib.hid S9
               have XQ9 := Lib.hid q9
               have HT9 := Lib.hid ht9
               have HZ9 := Lib.hid z9
               have HKD9 := Lib.hid kd9
               clear S9 q9 o9 ht9 z9 kd9 HE1_8 XS8 HQr
               go_wp2_with fail
               refine (XS9.out.node ⟨23, 0, t9.s, ⟨#[]⟩⟩ 22 [⟨A1, c1, e1⟩] #[.slice A1 e1.length c1] rfl (mem1 HE1_9.out) (by have := HL1.out; simp [catN]; omega) (by simp) (E := opS 23 t9.s e1) (by simp [catN, opS])).mono ?_
               rintro r w10 ⟨A10, c10, rfl, E10, S10, o10⟩
               have HF := Lib.hid (S10.fin E10 XQ9.out)
               clear E10 S10 o10
               generalize opS 23 t9.s e1 = EE at HF ⊢
               go_wp2_with fail
               go_ret
               exact HF.out
             | false =>
               have HB6 := Lib.hid b6
               clear b6
               go_wp2_with fail
               refine (XS7.out.take_no ⟨#[108, 105, 107, 101]⟩ _ l_like (by rw [XS7.out.nm (c := 108) (r := [105, 107, 101]) (by decide)]; exact HB6.out)).mono ?_
               rintro r w8 ⟨rfl, S8, o8⟩
               have HE1_8 := Lib.hid (HE1_7.out.on o8 HLT.out)
               have XS8 := Lib.hid S8
               clear S8 o8 HE1_7 XS7
               have ro : relOp (x.ts.drop j1) = 0 := by simp [relOp, HB0.out, HB1.out, HB2.out, HB3.out]
               have rw_ : relWd (x.ts.drop j1) = 0 := by simp [relWd, HB4.out, HB5.out, HB6.out]
               have q := HR.out
               rw [ro, if_neg (by decide), rw_, if_neg (by decide)] at q
               have HF := Lib.hid (XS8.out.fin HE1_8.out q)
               clear q ro rw_ HR
               go_wp2_with fail
               go_ret
               exact HF.out
end Go.Proofs.YtbggbcnfkcadjaaGreatDoor
namespace Go.Proofs.YtbggbcnfkcadjaaGreatDoor
set_option maxRecDepth 100000
open Go.RowKit Go.Sort Go.Maps
theorem strk_law : Maps.Keyed Tryz.prog 9 := Maps.string_keyed Tryz.underlying9
theorem strk_eq {s : ByteArray} (h : s.size ≤ maxLen) : keyOf Tryz.prog 9 (.string s) = some (.string s.data.toList) := Go.WideMaps.keyOf_string_mk Tryz.underlying9 h
theorem lstr_key {s : ByteArray} : (Lit.string s.data.toList) = .string s.toList := by rw [ByteArray.toList_eq]
theorem int_zero2 (w : World) : (zeroValue 3).run Tryz.prog w = .ok (.int .i64 0) w := by kernel_rfl
theorem pe_inv {v : Value} {k : Int} {ps : List MemPlace} (h : plainElem (H := Unit) Tryz.prog 3 v = some (.lit (.int .i64 k), ps)) : v = .int .i64 k := by
 unfold plainElem at h
 rw [Tryz.underlying3] at h
 cases v with
 | int q a =>
   dsimp only at h
   split at h
   · rename_i hq
     injection h with h
     injection h with h1 h2
     injection h1 with h1
     injection h1 with h1 h3
     rw [hq.1, h3]
   · cases h
 | _ => cases h
def SgOk (v : List UInt8 → Int) (D : DataW Unit) : Prop := ∀ l : List UInt8, Maps.has D (.string l) = decide (v l ≠ 0) ∧ (v l ≠ 0 → ∀ z, D.atKey (.string l) z = .lit (.int .i64 (v l)))
def SgAt (w : World) (mb n : Nat) (v : List UInt8 → Int) : Prop := ∃ D, w.ownsMap Tryz.prog 9 (plainElem (H := Unit) Tryz.prog 3) mb n D ∧ SgOk v D
theorem SgAt.kept {w w' : World} {mb n : Nat} {v : List UInt8 → Int} (h : SgAt w mb n v) {row : Option Nat} (hg : w.grownBy w' row) (hne : some mb ≠ row) : SgAt w' mb n v := by
 obtain ⟨D, h1, h2⟩ := h
 exact ⟨D, h1.kept hg hne, h2⟩
theorem SgAt.lt {w : World} {mb n : Nat} {v : List UInt8 → Int} (h : SgAt w mb n v) : mb < w.heap.size := by
 obtain ⟨D, h1, _⟩ := h
 exact h1.lt
theorem SgAt.only {w w' : World} {mb n pb : Nat} {v : List UInt8 → Int} (h : SgAt w mb n v) (ho : Only w.heap.size pb w w') (hne : mb ≠ pb) : SgAt w' mb n v :=
 h.kept (row := some pb) ⟨ho.os, ho.tape, ho.output, ho.size, fun k hk hn => ho.block k hk (fun e => hn (by rw [e]))⟩ (by intro e; injection e with e; exact hne e)
theorem sg_made (w : World) : SgAt (w.alloc (.map #[] 0)) w.heap.size 0 (fun _ => 0) := ⟨_, World.ownsMap_made _ _ _ _, fun l => ⟨by simp [Maps.has], fun h => absurd rfl h⟩⟩
theorem sg_put {w : World} {mb n : Nat} {v : List UInt8 → Int} (h : SgAt w mb n v) {s : ByteArray} {l0 : List UInt8} (hl0 : s.toList = l0) (hs : s.size ≤ maxLen) (hn : n ≤ 1000) {i : Int} (h0 : 1 ≤ i) (h1 : i ≤ 1000) :
   ∃ w', (Instr.mapUpdate 142 (.map (some mb)) (.string s) (.int .i64 i)).run Tryz.prog w = .ok () w' ∧ SgAt w' mb (n + 1) (fun l => if l = l0 then i else v l) ∧ w.grownBy w' (some mb) := by
 subst hl0
 obtain ⟨D, g1, g2⟩ := h
 have hv : plainElem (H := Unit) Tryz.prog 3 (.int .i64 i) = some (.lit (.int .i64 i), []) := plainElem_int Tryz.underlying3 (by unfold Lit.wf; rw [Bool.and_eq_true, decide_eq_true_eq, decide_eq_true_eq]; exact ⟨by show (-9223372036854775808 : Int) ≤ i; omega, by show i ≤ 9223372036854775807; omega⟩)
 obtain ⟨w', hr, h3, h4⟩ := g1.update strk_law Tryz.underlying142 (by unfold maxLen; omega) (strk_eq hs) hv
 rw [lstr_key] at h3
 refine ⟨w', hr, ⟨_, h3, fun l => ?_⟩, h4⟩
 have hkey : WideAt.IsKeyLit (.string s.toList) := by rw [← lstr_key]; exact strk_law.key (strk_eq hs)
 by_cases e : l = s.toList
 · subst e
   rw [has_put_same g1.isMap hkey]
   refine ⟨by simp; omega, fun _ z => ?_⟩
   rw [atKey_put_same g1.isMap hkey]
   simp
 · have hne : (Lit.string l) ≠ .string s.toList := fun h => e (by injection h)
   rw [has_put_other hne]
   simp only [if_neg e]
   exact ⟨(g2 l).1, fun h z => by rw [atKey_put_other hne]; exact (g2 l).2 h z⟩
theorem sg_look {w : World} {mb n : Nat} {v : List UInt8 → Int} (h : SgAt w mb n v) {s : ByteArray} (hs : s.size ≤ maxLen) {k : Int} (hk : v s.toList = k) :
   (Instr.lookup 142 (.map (some mb)) (.string s) true).run Tryz.prog w = .ok (.tuple #[.int .i64 k, .bool (decide (k ≠ 0))]) w := by
 subst hk
 obtain ⟨D, g1, g2⟩ := h
 obtain ⟨u, ps, hr, hv⟩ := g1.look_ok strk_law Tryz.underlying142 (int_zero2 w) (zd := .lit (.int .i64 0)) (zp := []) (plainElem_int Tryz.underlying3 (by decide)) (strk_eq hs)
 rw [lstr_key] at hr hv
 rw [(g2 s.toList).1] at hr
 by_cases e : v s.toList = 0
 · have h0 : Maps.has D (.string s.toList) = false := by rw [(g2 s.toList).1]; simpa using e
   rw [atKey_of_not_has h0] at hv
   rw [hr, pe_inv hv, e]
 · rw [(g2 s.toList).2 e] at hv
   rw [hr, pe_inv hv]
end Go.Proofs.YtbggbcnfkcadjaaGreatDoor
namespace Go.Proofs.YtbggbcnfkcadjaaGreatDoor
set_option maxRecDepth 100000
open Go.RowKit Go.Sort
theorem SgAt.drewN {w : World} {mb n : Nat} {v : List UInt8 → Int} (h : SgAt w mb n v) (k : Nat) : SgAt (w.drewN k) mb n v := h.only (pb := mb + 1) ((Only.refl _ _ _).drewN k) (by omega)
theorem lp_end {g l : Nat} {e : List Nd} {ts : List Tk} (h : kdR ts ≠ 5) : pa (g + 1) (.lp l e) ts = .ok e ts := by
 cases ts with
 | nil => rfl
 | cons t r =>
   show (if chOp l t = 0 then _ else _) = _
   rw [if_pos (by unfold chOp; rw [if_pos (show t.kind ≠ 5 from h)])]
theorem lp_stop {g l : Nat} {e : List Nd} {ts : List Tk} {j : Nat} {t : Tk} (ht : ts[j]? = some t) (h : chOp l t = 0) : pa (g + 1) (.lp l e) (ts.drop j) = .ok e (ts.drop j) := by
 rw [drop_cons ht]
 show (if chOp l t = 0 then _ else _) = _
 rw [if_pos h]
theorem lp_go {g l : Nat} {e : List Nd} {ts : List Tk} {j : Nat} {t : Tk} (ht : ts[j]? = some t) (h : ¬ chOp l t = 0) : pa (g + 1) (.lp l e) (ts.drop j) = (pa g (subT l) (ts.drop (j + 1))).bind fun e2 r2 => pa g (.lp l (opX (chOp l t) (e ++ e2))) r2 := by
 rw [drop_cons ht]
 show (if chOp l t = 0 then _ else _) = _
 rw [if_neg h]
theorem sub_low (l : Nat) : (subT l).gd 300 := (subT_gd 300 l).1
set_option maxHeartbeats 12800000 in
theorem ph_chain (x : Px) (l n fb : Nat) (v : List UInt8 → Int) (f : Nat) (eg : ∀ args w, (callFunc fb args).run Tryz.prog w = .ok (.enter fb args) w) (hfb : ∀ g, g ≤ f → Does x fb (pa g (subT l))) (hv : ∀ t : Tk, t.kind = 5 → v t.s.toList = chOp l t) (w : World) (i mb : Nat) (hx : PxIn x w) (hB : PxB x w i) (hi : i ≤ x.ts.length) (hm : SgAt w mb n v) (hmb : mb ≠ x.pb) (hnb : ∀ r, pa (f + 1) (.ch l) (x.ts.drop i) ≠ .bad 0 r) :
   Calls Tryz.prog 97 #[.pointer (some ⟨x.pb, 0, none⟩), .func (.func fb) #[.pointer (some ⟨x.pb, 0, none⟩)] #[], .map (some mb)] w (PaPost x w (pa (f + 1) (.ch l) (x.ts.drop i))) := by
 have S0 := St.start hx hB hi
 have HS0 := Lib.hid S0
 have HLT := Lib.hid hB.lt
 have HF := Lib.hid hfb
 have HFF := Lib.hid (hfb f (Nat.le_refl _))
 have HV := Lib.hid hv
 have HM := Lib.hid hm
 have hlen := hx.len
 obtain ⟨Q, hQ⟩ : ∃ Q, pa (f + 1) (.ch l) (x.ts.drop i) = Q := ⟨_, rfl⟩
 rw [hQ] at hnb ⊢
 have HN := Lib.hid hnb
 have HQ0 : Hid ((pa f (subT l) (x.ts.drop i)).bind (fun e r => pa f (.lp l e) r) = Q) := hQ
 clear hx hB hi hfb hv hnb S0 hQ hm
 go_enter Tryz.func97, Tryz.ntmps97
 go_wp2_with fail
 refine (HS0.out.call HFF.out HN.out (sub_low l) HQ0.out).mono ?_
 rintro r w1 (⟨k, j, rfl, hp⟩ | ⟨A1, c1, e1, j1, rfl, E1, S1, o1, q1, l1, b1⟩)
 · have HP := Lib.hid hp
   clear hp
   go_wp2_with fail
   exact ⟨rfl, HP.out⟩
 have HM_1 := Lib.hid (HM.out.only o1 hmb)
 have HE1 := Lib.hid E1
 have XS1 := Lib.hid S1
 have XQ1 := Lib.hid q1
 have HL1 : Hid (e1.length ≤ 300) := by have := l1; rw [(subT_gd 300 l).2] at this; exact this
 have HG1 := Lib.hid b1
 clear E1 S1 q1 l1 b1 o1 HM HS0 HQ0
 go_wp2_with fail
 go_loopg [7, 8, 9] f (fun gg ev ov bv wr => ∃ (A : Option Addr) (c : Nat) (e : List Nd) (j : Nat), ev = .slice A e.length c ∧ gg ≤ f ∧ e.length ≤ 302 * (j + 1) ∧ Hid (Exm w.heap.size wr ⟨A, c, e⟩) ∧ Hid (St x w wr j) ∧ Hid (pa gg (.lp l e) (x.ts.drop j) = Q) ∧ Hid (SgAt wr mb n v))
 case atStart => exact ⟨A1, c1, e1, j1, rfl, Nat.le_refl _, by have := HL1.out; omega, HE1.out, XS1.out, XQ1.out, HM_1.out⟩
 case round =>
   obtain ⟨A, c, e, j, rfl, hgg, hle, HE, HS, HQ, HM⟩ := hrel
   clear HE1 XS1 XQ1 HL1 HG1 HM_1
   have hj300 : j ≤ 300 := Nat.le_trans HS.out.le hlen
   obtain ⟨gg, hgk⟩ : ∃ gg, gk = gg + 1 := by
     cases gk with
     | zero => exact absurd HQ.out.symm (HN.out _)
     | succ g => exact ⟨g, rfl⟩
   rw [hgk] at HQ
   have HGK := Lib.hid hgk
   have hggf : gg ≤ f := by omega
   clear hgk
   by_cases h5 : kdR (x.ts.drop j) = 5
   case neg =>
     have hqq : Pr.ok e (x.ts.drop j) = Q := by rw [← HQ.out, lp_end h5]
     obtain ⟨kd, hkd⟩ : ∃ kd, kdR (x.ts.drop j) = kd := ⟨_, rfl⟩
     have t5 : (kd == 5) = false := by rw [← hkd]; simpa using h5
     have HKD := Lib.hid hkd
     have HQQ := Lib.hid hqq
     clear h5 hqq hkd HQ
     go_wp2_with fail
     refine (HS.out.kind kd HKD.out).mono ?_
     rintro r w1 ⟨rfl, S1, o1⟩
     have HF1 := Lib.hid (S1.fin (HE.out.on o1 HLT.out) HQQ.out)
     clear S1 o1
     go_wp2_with fail
     go_ret
     exact HF1.out
   case pos =>
     obtain ⟨t, ht, htk⟩ := kd_some h5 (by decide)
     have HT := Lib.hid ht
     have htz := HS.out.inn.tk t (List.mem_of_getElem? ht)
     have htsz : t.s.size ≤ maxLen := by have := htz.sz; unfold maxLen; omega
     have HVT := Lib.hid (HV.out t htk)
     have HK5 := Lib.hid h5
     have hlt : j < x.ts.length := (List.getElem?_eq_some_iff.1 ht).1
     clear h5 ht htk htz
     go_wp2_with fail
     refine (HS.out.kind 5 HK5.out).mono ?_
     rintro r w1 ⟨rfl, S1, o1⟩
     have HE1 := Lib.hid (HE.out.on o1 HLT.out)
     have HS1 := Lib.hid S1
     have HM1 := Lib.hid (HM.out.only o1 hmb)
     clear S1 o1 HE HS HM
     have k0 := HS1.out.blk.cell 0
     have k1 : w1.cell? ⟨x.pb, 1, none⟩ = some (.int .i64 (j : Nat)) := HS1.out.blk.cell 1
     have f1 : w1.frozen? ⟨x.pb, 1, none⟩ = false := HS1.out.blk.frozen 1
     have s64 := HS1.out.i64
     obtain ⟨b, o, hA, hb, d0, d1, d2⟩ := HS1.out.inn.at_ HT.out
     have k0' : w1.cell? ⟨x.pb, 0, none⟩ = some (.slice (some ⟨b, o, none⟩) x.ts.length x.c) := by rw [← hA]; exact k0
     have ti := tok_at b o x.ts.length x.c j hlt
     have hpw := HS1.out.pb
     have hbw : b < w1.heap.size := Nat.lt_trans hb hpw
     clear k0 d0 d2 hA
     obtain ⟨oc, hoc⟩ : ∃ oc, chOp l t = oc := ⟨_, rfl⟩
     have hlk : ∀ k, (Instr.lookup 142 (.map (some mb)) (.string t.s) true).run Tryz.prog (w1.drewN k) = .ok (.tuple #[.int .i64 oc, .bool (decide (oc ≠ 0))]) (w1.drewN k) := fun k => sg_look (HM1.out.drewN k) htsz (HVT.out.trans hoc)
     by_cases h0 : oc = 0
     · have hqq : Pr.ok e (x.ts.drop j) = Q := by rw [← HQ.out, lp_stop HT.out (hoc.trans h0)]
       have td : decide (oc ≠ 0) = false := by simp [h0]
       rw [td] at hlk
       have HF1 := Lib.hid (fun k => (HS1.out.turn ((Only.refl _ _ _).drewN k) (HS1.out.blk.drewN k) HS1.out.le).fin (HE1.out.on ((Only.refl w1.heap.size x.pb w1).drewN k) HLT.out) hqq)
       clear hqq td h0 hoc HQ
       go_wp2_with fail
       go_quiet (fail)
       go_wp2_with fail
       go_ret
       exact HF1.out _
     · have hqq := HQ.out
       rw [lp_go HT.out (by rw [hoc]; exact h0), hoc] at hqq
       have HQQ := Lib.hid hqq
       have td : decide (oc ≠ 0) = true := by simp [h0]
       rw [td] at hlk
       have HDF := Lib.hid (HF.out gg hggf)
       have HW := Lib.hid (fun k => HS1.out.turn ((Only.refl _ _ _).drewN k) (HS1.out.blk.drewN k) HS1.out.le)
       have HX := Lib.hid (fun k => HE1.out.on ((Only.refl w1.heap.size x.pb w1).drewN k) HLT.out)
       have HY := Lib.hid (fun k => HM1.out.drewN k)
       clear hqq td h0 hoc HQ HVT HS1 HE1 HM1
       go_wp2_with fail
       go_quiet (fail)
       go_wp2_with fail
       have HS2 := Lib.hid ((HW.out nq).step hlt)
       have HE2 := Lib.hid ((HX.out nq).on (only_step (x := x) (RowKit.Below.refl _ _) (.int .i64 ((j : Nat) + 1))) HLT.out)
       have HM2 := Lib.hid ((HY.out nq).only (only_step (x := x) (RowKit.Below.refl _ _) (.int .i64 ((j : Nat) + 1))) hmb)
       clear hlk k1 f1 s64 d1 k0' hpw hbw HW HX HY
       generalize (w1.drewN nq).setCell ⟨x.pb, 1, none⟩ (.int .i64 (((j : Nat) : Int) + 1)) = w2 at HS2 HE2 HM2 ⊢
       have HLE := Lib.hid hle
       refine (HS2.out.call HDF.out HN.out (sub_low l) HQQ.out).mono ?_
       rintro r w3 (⟨k, j, rfl, hp⟩ | ⟨A3, c3, e3, j3, rfl, E3, S3, o3, q3, l3, b3⟩)
       · have HP := Lib.hid hp
         clear hp
         go_wp2_with fail
         exact ⟨rfl, HP.out⟩
       have HE2_3 := Lib.hid (HE2.out.on o3 HLT.out)
       have HM2_3 := Lib.hid (HM2.out.only o3 hmb)
       have HE3 := Lib.hid E3
       have XS3 := Lib.hid S3
       have XQ3 := Lib.hid q3
       have HL3 : Hid (e3.length ≤ 300) := by have := l3; rw [(subT_gd 300 l).2] at this; exact this
       have HG3 := Lib.hid b3
       clear E3 S3 q3 l3 b3 o3 HE2 HM2 HS2 HQQ
       go_wp2_with fail
       refine (XS3.out.op oc 22 [⟨A, c, e⟩, ⟨A3, c3, e3⟩] #[.slice A e.length c, .slice A3 e3.length c3] rfl (mem2 HE2_3.out HE3.out) (by have := HLE.out; have := HL3.out; simp [catN]; omega) (by simp) (E := opX oc (e ++ e3)) (by simp [catN, opX])).mono ?_
       rintro r w4 ⟨A4, c4, rfl, E4, S4, o4⟩
       have HEm := Lib.hid E4
       have HSm := Lib.hid S4
       have HMm := Lib.hid (HM2_3.out.only o4 hmb)
       have HGm : Hid (j + 1 + 1 ≤ j3) := by have := HG3.out; rw [subT_starts] at this; exact this
       have HLm : Hid ((opX oc (e ++ e3)).length ≤ 302 * (j3 + 1)) := by have h1 := HGm.out; have h2 := HL3.out; show _ ≤ _; simp [opX]; omega
       have HQm : Hid (pa gg (.lp l (opX oc (e ++ e3))) (x.ts.drop j3) = Q) := XQ3.out
       clear E4 S4 o4
       generalize opX oc (e ++ e3) = EE at HEm HLm HQm ⊢
       go_wp2_with fail
       go_roundg gg
       case measure => have := HGK.out; omega
       case rel => exact ⟨A4, c4, EE, j3, rfl, by omega, HLm.out, HEm.out, HSm.out, HQm.out, HMm.out⟩
end Go.Proofs.YtbggbcnfkcadjaaGreatDoor
namespace Go.Proofs.YtbggbcnfkcadjaaGreatDoor
set_option maxRecDepth 100000
open Go.RowKit Go.Sort Go.Maps
theorem chOp1 {t : Tk} (h : t.kind = 5) : chOp 1 t = if t.s.toList = [124, 124] then 12 else 0 := by
 unfold chOp; rw [if_neg (fun h' => h' h), if_pos rfl]
theorem chOp2 {t : Tk} (h : t.kind = 5) : chOp 2 t = if t.s.toList = [38, 38] then 11 else 0 := by
 unfold chOp; rw [if_neg (fun h' => h' h), if_neg (show ¬ (2 : Nat) = 1 by decide), if_pos rfl]
theorem chOp4 {t : Tk} (h : t.kind = 5) : chOp 4 t = if t.s.toList = [43] then 17 else if t.s.toList = [45] then 18 else 0 := by
 unfold chOp; rw [if_neg (fun h' => h' h), if_neg (show ¬ (4 : Nat) = 1 by decide), if_neg (show ¬ (4 : Nat) = 2 by decide), if_pos rfl]
theorem chOp5 {t : Tk} (h : t.kind = 5) : chOp 5 t = if t.s.toList = [42] then 19 else 0 := by
 unfold chOp; rw [if_neg (fun h' => h' h), if_neg (show ¬ (5 : Nat) = 1 by decide), if_neg (show ¬ (5 : Nat) = 2 by decide), if_neg (show ¬ (5 : Nat) = 4 by decide)]
set_option maxHeartbeats 6400000 in
theorem ph_either (x : Px) (f : Nat) (hfb : ∀ g, g ≤ f → Does x 98 (pa g (subT 1))) : Does x 60 (pa (f + 1) (.ch 1)) := by
 intro w i hx hB hi hnb
 have hmf : ∀ (fn : Fn) (first cap : Array Value) (w : World), (Instr.makeFunc fn first cap).run Tryz.prog w = .ok (.func fn first cap) w := fun _ _ _ _ => rfl
 have hmm := @run_makeMap Tryz.prog
 have hb0 : RowKit.Below w.heap.size w (w.alloc (.map #[] 0)) := by (repeat (first | assumption | exact Below.refl _ _ | apply Below.drew | apply below_drewN | (refine Below.alloc ?_ (by first | exact Nat.le_refl _ | omega | (simp; done) | (simp; omega)) _)))
 obtain ⟨w1, hr1, hs1, hg1⟩ := sg_put (sg_made w) (s := ⟨#[124, 124]⟩) (l0 := [124, 124]) (bsOf_list [124, 124]) (by decide) (by omega) (i := 12) (by decide) (by decide)
 have hb1 : RowKit.Below w.heap.size w w1 := hb0.grown hg1 hb0.size (fun q hq => by injection hq with hq; omega)
 have hpb := hB.lt
 have HC := Lib.hid (ph_chain x 1 _ 98 _ f (fun _ _ => by kernel_rfl) hfb (fun t ht => by
   rw [chOp1 ht]
   ) w1 i w.heap.size (hx.below hb1 hpb) (hB.below hb1) hi hs1 (by omega) hnb)
 have HO := Lib.hid (Only.of_below (g := x.pb) hb1 (Nat.le_refl _))
 clear hfb hx hB hi hnb hs1 hg1 hb1 hb0
 generalize pa (f + 1) (.ch 1) (x.ts.drop i) = Q at HC ⊢
 go_enter Tryz.func60, Tryz.ntmps60
 go_wp2_with fail
 refine HC.out.mono ?_
 rintro r w9 hp
 have hu := hp.up HO.out
 have HP := Lib.hid hu
 obtain ⟨-, hm⟩ := hu
 cases Q with
 | ok e rest =>
   obtain ⟨A, c, j, rfl, -⟩ := hm
   clear hp
   go_wp2_with fail
   go_ret
   exact HP.out
 | bad k rest =>
   obtain ⟨j, rfl, -⟩ := hm
   clear hp
   go_wp2_with fail
   exact ⟨rfl, HP.out⟩
set_option maxHeartbeats 6400000 in
theorem ph_both (x : Px) (f : Nat) (hfb : ∀ g, g ≤ f → Does x 134 (pa g (subT 2))) : Does x 98 (pa (f + 1) (.ch 2)) := by
 intro w i hx hB hi hnb
 have hmf : ∀ (fn : Fn) (first cap : Array Value) (w : World), (Instr.makeFunc fn first cap).run Tryz.prog w = .ok (.func fn first cap) w := fun _ _ _ _ => rfl
 have hmm := @run_makeMap Tryz.prog
 have hb0 : RowKit.Below w.heap.size w (w.alloc (.map #[] 0)) := by (repeat (first | assumption | exact Below.refl _ _ | apply Below.drew | apply below_drewN | (refine Below.alloc ?_ (by first | exact Nat.le_refl _ | omega | (simp; done) | (simp; omega)) _)))
 obtain ⟨w1, hr1, hs1, hg1⟩ := sg_put (sg_made w) (s := ⟨#[38, 38]⟩) (l0 := [38, 38]) (bsOf_list [38, 38]) (by decide) (by omega) (i := 11) (by decide) (by decide)
 have hb1 : RowKit.Below w.heap.size w w1 := hb0.grown hg1 hb0.size (fun q hq => by injection hq with hq; omega)
 have hpb := hB.lt
 have HC := Lib.hid (ph_chain x 2 _ 134 _ f (fun _ _ => by kernel_rfl) hfb (fun t ht => by
   rw [chOp2 ht]
   ) w1 i w.heap.size (hx.below hb1 hpb) (hB.below hb1) hi hs1 (by omega) hnb)
 have HO := Lib.hid (Only.of_below (g := x.pb) hb1 (Nat.le_refl _))
 clear hfb hx hB hi hnb hs1 hg1 hb1 hb0
 generalize pa (f + 1) (.ch 2) (x.ts.drop i) = Q at HC ⊢
 go_enter Tryz.func98, Tryz.ntmps98
 go_wp2_with fail
 refine HC.out.mono ?_
 rintro r w9 hp
 have hu := hp.up HO.out
 have HP := Lib.hid hu
 obtain ⟨-, hm⟩ := hu
 cases Q with
 | ok e rest =>
   obtain ⟨A, c, j, rfl, -⟩ := hm
   clear hp
   go_wp2_with fail
   go_ret
   exact HP.out
 | bad k rest =>
   obtain ⟨j, rfl, -⟩ := hm
   clear hp
   go_wp2_with fail
   exact ⟨rfl, HP.out⟩
set_option maxHeartbeats 6400000 in
theorem ph_sum (x : Px) (f : Nat) (hfb : ∀ g, g ≤ f → Does x 177 (pa g (subT 4))) : Does x 159 (pa (f + 1) (.ch 4)) := by
 intro w i hx hB hi hnb
 have hmf : ∀ (fn : Fn) (first cap : Array Value) (w : World), (Instr.makeFunc fn first cap).run Tryz.prog w = .ok (.func fn first cap) w := fun _ _ _ _ => rfl
 have hmm := @run_makeMap Tryz.prog
 have hb0 : RowKit.Below w.heap.size w (w.alloc (.map #[] 0)) := by (repeat (first | assumption | exact Below.refl _ _ | apply Below.drew | apply below_drewN | (refine Below.alloc ?_ (by first | exact Nat.le_refl _ | omega | (simp; done) | (simp; omega)) _)))
 obtain ⟨w1, hr1, hs1, hg1⟩ := sg_put (sg_made w) (s := ⟨#[43]⟩) (l0 := [43]) (bsOf_list [43]) (by decide) (by omega) (i := 17) (by decide) (by decide)
 have hb1 : RowKit.Below w.heap.size w w1 := hb0.grown hg1 hb0.size (fun q hq => by injection hq with hq; omega)
 obtain ⟨w2, hr2, hs2, hg2⟩ := sg_put hs1 (s := ⟨#[45]⟩) (l0 := [45]) (bsOf_list [45]) (by decide) (by omega) (i := 18) (by decide) (by decide)
 have hb2 : RowKit.Below w.heap.size w w2 := hb1.grown hg2 hb1.size (fun q hq => by injection hq with hq; omega)
 have hpb := hB.lt
 have HC := Lib.hid (ph_chain x 4 _ 177 _ f (fun _ _ => by kernel_rfl) hfb (fun t ht => by
   rw [chOp4 ht]
   by_cases h1 : t.s.toList = [43]
   · rw [h1]; rfl
   · rw [if_neg h1]; simp only [if_neg h1]) w2 i w.heap.size (hx.below hb2 hpb) (hB.below hb2) hi hs2 (by omega) hnb)
 have HO := Lib.hid (Only.of_below (g := x.pb) hb2 (Nat.le_refl _))
 clear hfb hx hB hi hnb hs1 hg1 hb1 hs2 hg2 hb2 hb0
 generalize pa (f + 1) (.ch 4) (x.ts.drop i) = Q at HC ⊢
 go_enter Tryz.func159, Tryz.ntmps159
 go_wp2_with fail
 refine HC.out.mono ?_
 rintro r w9 hp
 have hu := hp.up HO.out
 have HP := Lib.hid hu
 obtain ⟨-, hm⟩ := hu
 cases Q with
 | ok e rest =>
   obtain ⟨A, c, j, rfl, -⟩ := hm
   clear hp
   go_wp2_with fail
   go_ret
   exact HP.out
 | bad k rest =>
   obtain ⟨j, rfl, -⟩ := hm
   clear hp
   go_wp2_with fail
   exact ⟨rfl, HP.out⟩
set_option maxHeartbeats 6400000 in
theorem ph_prod (x : Px) (f : Nat) (hfb : ∀ g, g ≤ f → Does x 194 (pa g (subT 5))) : Does x 177 (pa (f + 1) (.ch 5)) := by
 intro w i hx hB hi hnb
 have hmf : ∀ (fn : Fn) (first cap : Array Value) (w : World), (Instr.makeFunc fn first cap).run Tryz.prog w = .ok (.func fn first cap) w := fun _ _ _ _ => rfl
 have hmm := @run_makeMap Tryz.prog
 have hb0 : RowKit.Below w.heap.size w (w.alloc (.map #[] 0)) := by (repeat (first | assumption | exact Below.refl _ _ | apply Below.drew | apply below_drewN | (refine Below.alloc ?_ (by first | exact Nat.le_refl _ | omega | (simp; done) | (simp; omega)) _)))
 obtain ⟨w1, hr1, hs1, hg1⟩ := sg_put (sg_made w) (s := ⟨#[42]⟩) (l0 := [42]) (bsOf_list [42]) (by decide) (by omega) (i := 19) (by decide) (by decide)
 have hb1 : RowKit.Below w.heap.size w w1 := hb0.grown hg1 hb0.size (fun q hq => by injection hq with hq; omega)
 have hpb := hB.lt
 have HC := Lib.hid (ph_chain x 5 _ 194 _ f (fun _ _ => by kernel_rfl) hfb (fun t ht => by
   rw [chOp5 ht]
   ) w1 i w.heap.size (hx.below hb1 hpb) (hB.below hb1) hi hs1 (by omega) hnb)
 have HO := Lib.hid (Only.of_below (g := x.pb) hb1 (Nat.le_refl _))
 clear hfb hx hB hi hnb hs1 hg1 hb1 hb0
 generalize pa (f + 1) (.ch 5) (x.ts.drop i) = Q at HC ⊢
 go_enter Tryz.func177, Tryz.ntmps177
 go_wp2_with fail
 refine HC.out.mono ?_
 rintro r w9 hp
 have hu := hp.up HO.out
 have HP := Lib.hid hu
 obtain ⟨-, hm⟩ := hu
 cases Q with
 | ok e rest =>
   obtain ⟨A, c, j, rfl, -⟩ := hm
   clear hp
   go_wp2_with fail
   go_ret
   exact HP.out
 | bad k rest =>
   obtain ⟨j, rfl, -⟩ := hm
   clear hp
   go_wp2_with fail
   exact ⟨rfl, HP.out⟩
end Go.Proofs.YtbggbcnfkcadjaaGreatDoor
namespace Go.Proofs.YtbggbcnfkcadjaaGreatDoor
set_option maxRecDepth 100000
open Go.RowKit Go.Sort
theorem nds_one (W : World) (n : Nd) : NdsNew W (.returned (.slice (some ⟨W.heap.size, 0, none⟩) 1 1)) (W.alloc (.cells #[.int .i64 n.op, .int .i64 n.n, .string n.s, .string n.t] 29)) [n] := by
 refine ⟨_, 1, rfl, Nat.le_refl _, by omega, fun _ => ⟨W.heap.size, 0, rfl, by simp, fun k y hk => ?_⟩, by (repeat (first | assumption | exact Below.refl _ _ | apply Below.drew | apply below_drewN | (refine Below.alloc ?_ (by first | exact Nat.le_refl _ | omega | (simp; done) | (simp; omega)) _))), fun b o e => by injection e with e; injection e with e; omega⟩
 obtain rfl : k = 0 := by
   have := (List.getElem?_eq_some_iff.1 hk).1; simp at this; exact this
 simp at hk; subst hk
 exact ⟨by rw [World.cell?_alloc_new]; rfl, by rw [World.cell?_alloc_new]; rfl, by rw [World.cell?_alloc_new]; rfl, by rw [World.cell?_alloc_new]; rfl⟩
theorem St.leaf {x : Px} {w W : World} {i : Nat} (h : St x w W i) (n : Nd) {Q : Pr} (hQ : .ok [n] (x.ts.drop i) = Q) : PaPost x w Q (.returned (.slice (some ⟨W.heap.size, 0, none⟩) 1 1)) (W.alloc (.cells #[.int .i64 n.op, .int .i64 n.n, .string n.s, .string n.t] 29)) := by
 rw [← hQ]; exact h.yes (nds_one W n) (by simp)
theorem cat_toList (a b : ByteArray) : (a ++ b).toList = a.toList ++ b.toList := by
 simp only [ByteArray.toList_eq, ByteArray.data_append, Array.toList_append]
theorem l_nil : (⟨#[]⟩ : ByteArray).toList = [] := bsOf_list []
theorem GlC.later {w w' : World} (h : GlC w) (hb : RowKit.Below w.heap.size w w') (hg : 9 ≤ w.heap.size) : GlC w' := h.keep fun p hp => hb.cell (by omega)
set_option maxHeartbeats 6400000 in
theorem St.number {x : Px} {w W : World} {i : Nat} (h : St x w W i) (m : ByteArray) (ml : List UInt8) (hm : m.toList = ml) (hs : m.size ≤ 1) {Q : Pr} (hQ : wordR 2 (x.ts.drop i) (fun s r => numA (ml ++ s.toList) (x.ts.drop i) r) = Q) :
   Calls Tryz.prog 234 #[.pointer (some ⟨x.pb, 0, none⟩), .string m] W (PanOr x w Q fun r W' => ∃ A c n, r = .returned (.slice A n c) ∧ PaPost x w Q (.returned (.slice A n c)) W') := by
 have HS0 := Lib.hid h
 have HLT := Lib.hid h.lt
 have HQ0 := Lib.hid hQ
 have HM := Lib.hid hm
 have hlen := h.inn.len
 have hle := h.le
 have hng : 9 ≤ x.pb := h.inn.gb
 have hi65 : IntKind.wrap .i64 ((i : Int) + 1 - 1) = (i : Int) := by rw [Int.add_sub_cancel]; exact IntWalk.i64_in _ (by omega)
 have hi66 : IntKind.wrap .i64 (i : Int) = (i : Int) := IntWalk.i64_in _ (by omega)
 clear h hQ hm
 go_enter Tryz.func234, Tryz.ntmps234
 go_wp2_with fail
 refine (HS0.out.word 2 (by decide) HQ0.out).mono ?_
 rintro r w1 (⟨k, j, rfl, hp⟩ | ⟨t1, ht1, rfl, S1, o1, z1, kd1, q1⟩)
 · have HP := Lib.hid hp
   clear hp
   go_wp2_with fail
   exact ⟨rfl, .inl ⟨_, _, rfl, HP.out⟩⟩
 have HS1 := Lib.hid S1
 have HT := Lib.hid ht1
 have hsz : (m ++ t1.s).size ≤ 61 := by rw [ByteArray.size_append]; have := z1.sz; omega
 have HL : Hid ((m ++ t1.s).data.toList = ml ++ t1.s.toList) := by show _ = _; rw [← ByteArray.toList_eq, cat_toList, HM.out]
 have HQ1 : Hid (numA (ml ++ t1.s.toList) (x.ts.drop i) (x.ts.drop (i + 1)) = Q) := q1
 have hcs : t1.s.size ≤ 60 := z1.sz
 clear S1 o1 z1 kd1 q1 HQ0 HS0 ht1
 have hgl := HS1.out.inn.gl
 obtain ⟨ev7, hv7, he7⟩ := hgl.syn
 obtain ⟨ev8, hv8, he8⟩ := hgl.ran
 have HSY := Lib.hid (fun h1 h2 => Tryz.strconv_ParseInt_10_at64_syntax (m ++ t1.s) (by omega) h1 h2 ev7 w1 hv7 he7)
 have HRA := Lib.hid (fun hb => Tryz.strconv_ParseInt_10_at64_range (m ++ t1.s) (by omega) hb ev8 w1 hv8 he8)
 have HOK := Lib.hid (fun v hb => Tryz.strconv_ParseInt_10_at64_ok (m ++ t1.s) (by omega) v hb w1)
 clear hgl hv7 hv8 he7 he8
 cases hp : Lib.parseIntB 64 (m ++ t1.s).data.toList with
 | ok v =>
   have hqq : Pr.ok [numX v] (x.ts.drop (i + 1)) = Q := by
     rw [← HQ1.out, ← HL.out]
     unfold numA numW
     rw [hp]
   have HC := Lib.hid (HOK.out v hp)
   have HQQ := Lib.hid hqq
   clear hp HSY HRA HOK HQ1 hqq HL
   go_wp2_with fail
   refine HC.out.mono ?_
   rintro r w2 ⟨rfl, hw2⟩
   have hb2 : RowKit.Below w1.heap.size w1 w2 := by
     rcases hw2 with rfl | ⟨t, rfl⟩
     · exact RowKit.Below.refl _ _
     · exact Lib.bytesWorld_below _ _ _
   have HF := Lib.hid ((HS1.out.below hb2).leaf (numX v) HQQ.out)
   clear hb2 hw2
   go_wp2_with fail
   go_ret
   exact .inr ⟨_, _, _, rfl, HF.out⟩
 | range =>
   have hqq : Pr.bad 5 (x.ts.drop i) = Q := by
     rw [← HQ1.out, ← HL.out]
     unfold numA numW
     rw [hp]
   have HC := Lib.hid (HRA.out hp)
   have HQQ := Lib.hid hqq
   clear hp HSY HRA HOK HQ1 hqq HL
   go_wp2_with fail
   refine HC.out.mono ?_
   rintro r w2 ⟨NN, rfl, -, -, hb2⟩
   have HS2 := Lib.hid (HS1.out.below hb2)
   have k1 : w2.cell? ⟨x.pb, 1, none⟩ = some (.int .i64 ((i : Int) + 1)) := HS2.out.blk.cell 1
   clear hb2
   go_wp2_with fail
   exact ⟨rfl, .inl ⟨5, i, rfl, by rw [← HQQ.out]; exact PaPost.no HS2.out.only hle rfl⟩⟩
 | _ =>
   have hqq : Pr.bad 5 (x.ts.drop i) = Q := by
     rw [← HQ1.out, ← HL.out]
     unfold numA numW
     rw [hp]
   have HC := Lib.hid (HSY.out (fun v h => by rw [hp] at h; cases h) (fun h => by rw [hp] at h; cases h))
   have HQQ := Lib.hid hqq
   clear hp HSY HRA HOK HQ1 hqq HL
   go_wp2_with fail
   refine HC.out.mono ?_
   rintro r w2 ⟨NN, rfl, -, -, hb2⟩
   have HS2 := Lib.hid (HS1.out.below hb2)
   have k1 : w2.cell? ⟨x.pb, 1, none⟩ = some (.int .i64 ((i : Int) + 1)) := HS2.out.blk.cell 1
   clear hb2
   go_wp2_with fail
   exact ⟨rfl, .inl ⟨5, i, rfl, by rw [← HQQ.out]; exact PaPost.no HS2.out.only hle rfl⟩⟩
end Go.Proofs.YtbggbcnfkcadjaaGreatDoor
