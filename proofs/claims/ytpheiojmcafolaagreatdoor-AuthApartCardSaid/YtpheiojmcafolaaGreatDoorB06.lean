/-
  THE WALKS of package tree: parts. THE WALKS: tree.shaped.
  THE WALKS: tree.behind.
  THE WALKS: tree.Check, Skip, End.
-/
import Derived.Test.YtpheiojmcafolaaGreatDoorB05
import Derived.Test.YtpheiojmcafolaaGreatDoorB01
namespace Go.Proofs.YtpheiojmcafolaaGreatDoor
open Go.RowKit
set_option maxHeartbeats 1600000 in
theorem tree_parts (op n : Int) (s t : ByteArray) (w : World) :
   Calls Tryz.prog 106 #[.agg #[.int .i64 op, .int .i64 n, .string s, .string t]] w fun e w' => e = .returned (.int .i64 (ndParts ⟨op, n, s, t⟩)) ∧ Below w.heap.size w w' := by
 go_enter Tryz.func106, Tryz.ntmps106
 go_wp2
 all_goals
   go_ret
   refine ⟨ret_int ?_, (Below.refl _ _).alloc (Nat.le_refl _) _⟩
   simp only [beq_iff_eq, beq_eq_false_iff_ne] at *
   simp [ndParts, *]
set_option maxHeartbeats 1600000 in
theorem tree_Reserved (s : ByteArray) (w : World) :
   Calls Tryz.prog 168 #[.string s] w fun e w' => e = .returned (.bool (reserved s.toList)) ∧ w = w' := by
 go_enter Tryz.func168, Tryz.ntmps168
 go_wp2
 all_goals
   go_ret
   refine ⟨ret_bool ?_, rfl⟩
   first | (simp [reserved, *]; done) | simp_all
set_option maxHeartbeats 1600000 in
theorem tree_variable (s : ByteArray) (w : World) (hs : s.size ≤ 140737488351232) :
   Calls Tryz.prog 139 #[.string s] w fun e w' => e = .returned (.bool (variableB s.toList)) ∧ Below w.heap.size w w' := by
 by_cases h0 : 0 < s.size
 · have h0' : s.toList.isEmpty = false := toList_ne h0
   obtain ⟨l, hl0⟩ := toList_cons h0
   have HL := Lib.hid hl0
   have hx := extract_one s
   have HX : Hid ((s.extract 1 s.size).toList = l) := by rw [hl0] at hx; exact hx
   have hxs := extract_size s
   have HXS := Lib.hid hxs
   clear hl0 hx hxs
   by_cases hq : s[0] = 63
   · have hqi : ((s[0].toNat : Int) == 63) = true := by rw [hq]; rfl
     go_enter Tryz.func139, Tryz.ntmps139
     go_wp2_with (go_at_call 65; refine (name_Check _ _ (by have := HXS.out; omega)).mono ?_; rintro e w1 ⟨rfl, hb1⟩)
     go_ret
     exact ⟨ret_bool (by rw [HX.out, HL.out]; simp [variableB, hq]), hb1⟩
   · have hqi : ((s[0].toNat : Int) == 63) = false := by
       rw [beq_eq_false_iff_ne]; intro hc; apply hq; apply UInt8.toNat_inj.1; simp; omega
     have HV : Hid (variableB s.toList = (nameErr s.toList == 0 && !reserved s.toList)) := by show _ = _; rw [HL.out]; simp [variableB, hq]
     go_enter Tryz.func139, Tryz.ntmps139
     go_wp2_with (first | (go_at_call 65; refine (name_Check s _ hs).mono ?_; rintro e w1 ⟨rfl, hb1⟩) | (go_at_call 168; refine (tree_Reserved s _).mono ?_; rintro e w2 ⟨rfl, rfl⟩))
     all_goals
       go_ret
       refine ⟨ret_bool ?_, hb1⟩
       rw [HV.out]
       simp [*]
 · have h0' := toList_nil h0
   have h0'' : s.toList.isEmpty = true := by rw [h0']; rfl
   have HL := Lib.hid h0'
   clear h0'
   have HV : Hid (variableB s.toList = (nameErr s.toList == 0 && !reserved s.toList)) := by show _ = _; rw [HL.out]; rfl
   go_enter Tryz.func139, Tryz.ntmps139
   go_wp2_with (first | (go_at_call 65; refine (name_Check s _ hs).mono ?_; rintro e w1 ⟨rfl, hb1⟩) | (go_at_call 168; refine (tree_Reserved s _).mono ?_; rintro e w2 ⟨rfl, rfl⟩))
   all_goals
     go_ret
     refine ⟨ret_bool ?_, hb1⟩
     rw [HV.out]
     simp [*]
end Go.Proofs.YtpheiojmcafolaaGreatDoor
namespace Go.Proofs.YtpheiojmcafolaaGreatDoor
open Go.RowKit
set_option maxRecDepth 100000 in
set_option maxHeartbeats 4000000 in
theorem tree_shaped (op n : Int) (s t : ByteArray) (w : World) (hs : s.size ≤ 140737488351232) (ht : t.size ≤ 140737488351232) :
   Calls Tryz.prog 105 #[.agg #[.int .i64 op, .int .i64 n, .string s, .string t]] w fun e w' => e = .returned (.bool (shapedT ⟨op, n, s, t⟩)) ∧ Below w.heap.size w w' := by
 have hx : NdAt ((w.alloc (.cells #[.int .i64 op, .int .i64 n, .string s, .string t] 37)).alloc (.cells #[.int .i64 op, .int .i64 n, .string s, .string t] 37)) (w.heap.size + 1) 0 ⟨op, n, s, t⟩ := by
   constructor <;> simp [go_sem]
 have HX := Lib.hid hx
 clear hx
 go_enter Tryz.func105, Tryz.ntmps105
 go_wp2_with (first
   | (go_at_call 65; refine (name_Check _ _ hs).mono ?_; rintro e w1 ⟨rfl, hb1⟩)
   | (go_at_call 125; refine (name_Plain _ _ hs).mono ?_; rintro e w1 ⟨rfl, hb1⟩)
   | (go_at_call 139; refine (tree_variable _ _ hs).mono ?_; rintro e w1 ⟨rfl, hb1⟩)
   | (go_at_call 63; refine (val_Check1 ⟨op, n, s, t⟩ _ _ HX.out (by simp) hs ht).mono ?_; rintro e w1 ⟨rfl, hb1⟩)
   | (go_at_call 106; refine (tree_parts _ _ _ _ _).mono ?_; rintro e w1 ⟨rfl, hb1⟩; obtain ⟨hcc, hff⟩ := bcell hb1))
 all_goals
   go_ret
   refine ⟨ret_bool ?_, ?_⟩
   · simp only [beq_iff_eq, beq_eq_false_iff_ne] at *
     clear HX
     simp [shapedT, *]
     all_goals first | omega | (intros; omega) | (intros; subst_vars; assumption)
   · first
       | exact (Below.refl _ _).alloc (Nat.le_refl _) _
       | exact ((Below.refl _ _).alloc (Nat.le_refl _) _).trans (hb1.mono (by simp))
       | exact (((Below.refl _ _).alloc (Nat.le_refl _) _).alloc (by simp) _).trans (hb1.mono (by simp; omega))
end Go.Proofs.YtpheiojmcafolaaGreatDoor
namespace Go.Proofs.YtpheiojmcafolaaGreatDoor
open Go.RowKit
def BehOk (e : List Nd) (f i : Nat) : Prop := ∀ (w : World) (A : Option Addr) (c : Nat) (fld : Bool), 2 * (e.length - i) ≤ f → e.length ≤ c → c ≤ 9223372036854775807 → i ≤ 9223372036854775807 → NdOk e → NdSl w w.heap.size A e →
 Calls Tryz.prog 84 #[.slice A e.length c, .int .i64 i, .bool fld] w fun r w' => r = .returned (.int .i64 (bVal (bGo e f (.one fld) i))) ∧ Below w.heap.size w w'
set_option maxRecDepth 100000 in
set_option maxHeartbeats 4000000 in
theorem beh_out (e : List Nd) (f i : Nat) (h : e.length ≤ i) : BehOk e f i := by
 intro w A c fld hf hc hcm him hok hsl
 have HV : Hid (bGo e f (.one fld) i = none) := by
   show _ = _
   cases f <;> simp [bGo, List.getElem?_eq_none h]
 go_enter Tryz.func84, Tryz.ntmps84
 go_wp2_with fail
 go_ret
 exact ⟨ret_int (by rw [HV.out]; rfl), Below.refl _ _⟩
set_option maxRecDepth 100000 in
set_option maxHeartbeats 4000000 in
theorem beh_bad (e : List Nd) (f i : Nat) (x : Nd) (hx : e[i]? = some x) (hsh : shapedT x = false) : BehOk e (f + 1) i := by
 intro w A c fld hf hc hcm him hok hsl
 have hil : i < e.length := (List.getElem?_eq_some_iff.1 hx).1
 obtain ⟨b, o, rfl, hb, hcs⟩ := hsl.at_ hil
 obtain ⟨d0, d1, d2, d3⟩ := hcs i x hx
 obtain ⟨hxs, hxt⟩ := hok x (List.mem_of_getElem? hx)
 have HV : Hid (bGo e (f + 1) (.one fld) i = none) := by show _ = _; simp [bGo, hx, hsh]
 clear hcs hok hsl hx
 go_enter Tryz.func84, Tryz.ntmps84
 go_wp2_with (go_at_call 105; refine (tree_shaped x.op x.n x.s x.t _ hxs hxt).mono ?_; rintro r w1 ⟨rfl, hb1⟩)
 go_ret
 exact ⟨ret_int (by rw [HV.out]; rfl), hb1⟩
set_option maxRecDepth 100000 in
set_option maxHeartbeats 4000000 in
theorem beh_no (e : List Nd) (f i : Nat) (x : Nd) (hx : e[i]? = some x) (hsh : shapedT x = true) (w : World) (A : Option Addr) (c : Nat) (fld : Bool) (hfld : (x.op == 7) ≠ fld)
   (_hf : 2 * (e.length - i) ≤ f + 1) (_hc : e.length ≤ c) (_hcm : c ≤ 9223372036854775807) (_him : i ≤ 9223372036854775807) (hok : NdOk e) (hsl : NdSl w w.heap.size A e) :
   Calls Tryz.prog 84 #[.slice A e.length c, .int .i64 i, .bool fld] w fun r w' => r = .returned (.int .i64 (bVal (bGo e (f + 1) (.one fld) i))) ∧ Below w.heap.size w w' := by
 have hil : i < e.length := (List.getElem?_eq_some_iff.1 hx).1
 obtain ⟨b, o, rfl, hb, hcs⟩ := hsl.at_ hil
 obtain ⟨d0, d1, d2, d3⟩ := hcs i x hx
 obtain ⟨hxs, hxt⟩ := hok x (List.mem_of_getElem? hx)
 have HV : Hid (bGo e (f + 1) (.one fld) i = none) := by show _ = _; simp [bGo, hx, hsh, hfld]
 clear hcs hok hsl hx
 cases fld with
 | false =>
   have p7 : (x.op == 7) = true := by simpa using hfld
   clear hfld
   go_enter Tryz.func84, Tryz.ntmps84
   go_wp2_with (go_at_call 105; refine (tree_shaped x.op x.n x.s x.t _ hxs hxt).mono ?_; rintro r w1 ⟨rfl, hb1⟩; obtain ⟨hcc, hff⟩ := bcell hb1)
   go_ret
   exact ⟨ret_int (by rw [HV.out]; rfl), hb1⟩
 | true =>
   have p7 : (x.op == 7) = false := by simpa using hfld
   clear hfld
   go_enter Tryz.func84, Tryz.ntmps84
   go_wp2_with (go_at_call 105; refine (tree_shaped x.op x.n x.s x.t _ hxs hxt).mono ?_; rintro r w1 ⟨rfl, hb1⟩; obtain ⟨hcc, hff⟩ := bcell hb1)
   go_ret
   exact ⟨ret_int (by rw [HV.out]; rfl), hb1⟩
set_option maxRecDepth 100000 in
set_option maxHeartbeats 4000000 in
theorem beh_yes (e : List Nd) (f i : Nat) (x : Nd) (hx : e[i]? = some x) (hsh : shapedT x = true) (ih : ∀ f', f' ≤ f → ∀ i', BehOk e f' i') (w : World) (A : Option Addr) (c : Nat) (fld : Bool) (hfld : (x.op == 7) = fld)
   (hf : 2 * (e.length - i) ≤ f + 1) (hc : e.length ≤ c) (hcm : c ≤ 9223372036854775807) (him : i ≤ 9223372036854775807) (hok : NdOk e) (hsl : NdSl w w.heap.size A e) :
   Calls Tryz.prog 84 #[.slice A e.length c, .int .i64 i, .bool fld] w fun r w' => r = .returned (.int .i64 (bVal (bGo e (f + 1) (.one fld) i))) ∧ Below w.heap.size w w' := by
 have hil : i < e.length := (List.getElem?_eq_some_iff.1 hx).1
 obtain ⟨b, o, rfl, hb, hcs⟩ := hsl.at_ hil
 obtain ⟨d0, d1, d2, d3⟩ := hcs i x hx
 obtain ⟨hxs, hxt⟩ := hok x (List.mem_of_getElem? hx)
 have HV : Hid (bGo e (f + 1) (.one fld) i = bGo e f (.more (ndParts x).toNat (x.op == 6) ⟨#[]⟩) (i + 1)) := by show _ = _; simp [bGo, hx, hsh, hfld]
 have HS := Lib.hid hsl
 have HOK := Lib.hid hok
 have HI := Lib.hid ih
 have hdl : decide (e.length ≤ i) = false := by simp; omega
 have hdi : decide ((i : Int) < 0) = false := by simp
 obtain ⟨P, hP⟩ := Int.eq_ofNat_of_zero_le (shapedT_parts x hsh)
 have htp : ∀ W, Calls Tryz.prog 106 #[.agg #[.int .i64 x.op, .int .i64 x.n, .string x.s, .string x.t]] W fun e w' => e = .returned (.int .i64 (P : Int)) ∧ Below W.heap.size W w' := fun W => by
   rw [← hP]; exact tree_parts x.op x.n x.s x.t W
 have HTP := Lib.hid htp
 have HPP : Hid ((ndParts x).toNat = P) := by show _ = _; rw [hP]; rfl
 clear hcs hok hsl hx ih htp hP
 subst hfld
 go_enter Tryz.func84, Tryz.ntmps84
 go_wp2_with (first
   | (go_at_call 105; refine (tree_shaped x.op x.n x.s x.t _ hxs hxt).mono ?_; rintro r w1 ⟨rfl, hb1⟩; obtain ⟨hcc, hff⟩ := bcell hb1)
   | (go_at_call 106; refine (HTP.out _).mono ?_; rintro r w2 ⟨rfl, hb2⟩))
 have hz1 := hb1.size
 have hz2 : w1.heap.size + 1 ≤ w2.heap.size := by have := hb2.size; simpa using this
 have hw2 : Below w.heap.size w w2 := (hb1.alloc hb1.size _).trans (hb2.mono (by simp; omega))
 have hn2 : w2.cell? ⟨w1.heap.size, 0, none⟩ = some (.int .i64 x.op) := by rw [hb2.cell (p := ⟨w1.heap.size, 0, none⟩) (by simp)]; simp [go_sem]
 have HN2 := Lib.hid hn2
 clear hn2 hcc hff
 go_loopw [1, 8, 43] (fun at_ last kk wr => ∃ (k c2 fk a : Nat) (l : ByteArray), at_ = .int .i64 a ∧ kk = .int .i64 k ∧ last = .string l ∧ k + c2 = P ∧ i + 1 ≤ a ∧ a ≤ e.length ∧ k ≤ a ∧ fk ≤ f ∧ 2 * (e.length - a) + 1 ≤ fk ∧
     Hid (bGo e f (.more P (x.op == 6) ⟨#[]⟩) (i + 1) = bGo e fk (.more c2 (x.op == 6) l) a) ∧ Below w2.heap.size w2 wr)
   (fun _ _ kk _ => P - (intOf kk).toNat)
 case atStart => exact ⟨0, P, f, i + 1, ⟨#[]⟩, by go_num, rfl, rfl, by omega, by omega, by omega, by omega, by omega, by omega, rfl, Below.refl _ _⟩
 case round =>
   obtain ⟨k, c2, fk, a, l, rfl, rfl, rfl, hkc, hia, hal, hka, hff2, hfk, HK, hbr⟩ := hrel
   have hzr := hbr.size
   have hnr : wr.cell? ⟨w1.heap.size, 0, none⟩ = some (.int .i64 x.op) := (hbr.cell (p := ⟨w1.heap.size, 0, none⟩) (by simp; omega)).trans HN2.out
   have hwr : Below w.heap.size w wr := hw2.trans (hbr.mono (by omega))
   by_cases hkP : k < P
   · obtain ⟨c3, rfl⟩ : ∃ c3, c2 = c3 + 1 := ⟨c2 - 1, by omega⟩
     obtain ⟨fk2, rfl⟩ : ∃ fk2, fk = fk2 + 1 := ⟨fk - 1, by omega⟩
     by_cases hae : e.length ≤ a
     · have HVN : Hid (bGo e (f + 1) (.one (x.op == 7)) i = none) := by
         show _ = _
         rw [HV.out, HPP.out, HK.out]; simp [bGo, List.getElem?_eq_none hae]
       go_wp2_with fail
       go_ret
       exact ⟨ret_int (by rw [HVN.out]; rfl), hwr⟩
     · have hal2 : a < e.length := by omega
       obtain ⟨m, hm⟩ : ∃ m, e[a]? = some m := ⟨_, List.getElem?_eq_getElem hal2⟩
       have hcs : ∀ i x, e[i]? = some x → NdAt wr b (o + i * 4) x := by
         obtain ⟨b', o', h1, _, h2⟩ := (HS.out.below hwr).at_ hal2
         injection h1 with h1; injection h1 with h1 h3; subst h1 h3; exact h2
       obtain ⟨m0, m1, m2, m3⟩ := hcs a m hm
       have HM := Lib.hid hm
       have hih := fun (W : World) (r : Bool) (hW : Below wr.heap.size wr W) => HI.out fk2 (by omega) a W (some ⟨b, o, none⟩) c r (by omega) hc hcm (by omega) HOK.out (((HS.out.below hwr).below (hW.mono (by have := hwr.size; omega))).more (Nat.le_trans hwr.size hW.size))
       have HIH := Lib.hid hih
       clear hcs hm hih m1 m3 m0
       cases hr : (x.op == 6) with
       | true =>
         by_cases hlate : sLate l m.s = true
         · have HVN : Hid (bGo e (f + 1) (.one (x.op == 7)) i = none) := by
             have h1 := HM.out
             show _ = _
             rw [HV.out, HPP.out, HK.out, hr]; simp [bGo, h1, hlate]
           unfold sLate at hlate
           go_wp2_with fail
           go_ret
           exact ⟨ret_int (by rw [HVN.out]; rfl), hwr⟩
         · have hlate : sLate l m.s = false := by simpa using hlate
           have HK2 : ∀ v, bGo e fk2 (.one true) a = v → Hid (bGo e (f + 1) (.one (x.op == 7)) i = match v with | none => none | some j => bGo e fk2 (.more c3 true m.s) j) := by
             intro v hv
             have h1 := HM.out
             show _ = _
             rw [HV.out, HPP.out, HK.out, hr]; simp [bGo, h1, hv, hlate]
             cases v <;> rfl
           have HK3 := Lib.hid HK2
           clear HK2
           unfold sLate at hlate
           cases hv : bGo e fk2 (.one true) a with
           | none =>
             have HC : ∀ W, Below wr.heap.size wr W → Calls Tryz.prog 84 #[.slice (some ⟨b, o, none⟩) e.length c, .int .i64 a, .bool true] W fun r w' => r = .returned (.int .i64 (-1)) ∧ Below W.heap.size W w' := fun W hW => by
               have := HIH.out W true hW; rw [hv] at this; exact this
             have HC2 := Lib.hid HC
             have HVN := HK3.out none hv
             clear HC hv
             go_wp2_with (go_at_call 84; refine (HC2.out _ (Below.refl _ _)).mono ?_; rintro r w3 ⟨rfl, hb3⟩)
             go_ret
             exact ⟨ret_int (by rw [HVN.out]; rfl), hwr.trans (hb3.mono hwr.size)⟩
           | some j =>
             obtain ⟨hjl, _, haj⟩ := bGo_bound e fk2 (.one true) a j hv
             have hjl := hjl hal
             have haj := haj _ rfl
             have HC : ∀ W, Below wr.heap.size wr W → Calls Tryz.prog 84 #[.slice (some ⟨b, o, none⟩) e.length c, .int .i64 a, .bool true] W fun r w' => r = .returned (.int .i64 (j : Int)) ∧ Below W.heap.size W w' := fun W hW => by
               have := HIH.out W true hW; rw [hv] at this; exact this
             have HC2 := Lib.hid HC
             have HKN : Hid (bGo e f (.more P true ⟨#[]⟩) (i + 1) = bGo e fk2 (.more c3 true m.s) j) := by
               have := HK3.out _ hv
               have h3 := HV.out
               rw [HPP.out, hr] at h3
               exact h3.symm.trans this
             clear HC hv
             go_wp2_with (go_at_call 84; refine (HC2.out _ (Below.refl _ _)).mono ?_; rintro r w3 ⟨rfl, hb3⟩)
             go_roundw
             case rel => exact ⟨k + 1, c3, fk2, j, m.s, rfl, by go_num, rfl, by omega, by omega, by omega, by omega, by omega, by omega, HKN, hbr.trans (hb3.mono hbr.size)⟩
             case measure => simp [intOf]; omega
       | false =>
         have HK2 : ∀ v, bGo e fk2 (.one false) a = v → Hid (bGo e (f + 1) (.one (x.op == 7)) i = match v with | none => none | some j => bGo e fk2 (.more c3 false l) j) := by
           intro v hv
           have h1 := HM.out
           show _ = _
           rw [HV.out, HPP.out, HK.out, hr]; simp [bGo, h1, hv]
           cases v <;> rfl
         have HK3 := Lib.hid HK2
         clear HK2
         cases hv : bGo e fk2 (.one false) a with
         | none =>
           have HC : ∀ W, Below wr.heap.size wr W → Calls Tryz.prog 84 #[.slice (some ⟨b, o, none⟩) e.length c, .int .i64 a, .bool false] W fun r w' => r = .returned (.int .i64 (-1)) ∧ Below W.heap.size W w' := fun W hW => by
             have := HIH.out W false hW; rw [hv] at this; exact this
           have HC2 := Lib.hid HC
           have HVN := HK3.out none hv
           clear HC hv
           go_wp2_with (go_at_call 84; refine (HC2.out _ (Below.refl _ _)).mono ?_; rintro r w3 ⟨rfl, hb3⟩)
           go_ret
           exact ⟨ret_int (by rw [HVN.out]; rfl), hwr.trans (hb3.mono hwr.size)⟩
         | some j =>
           obtain ⟨hjl, _, haj⟩ := bGo_bound e fk2 (.one false) a j hv
           have hjl := hjl hal
           have haj := haj _ rfl
           have HC : ∀ W, Below wr.heap.size wr W → Calls Tryz.prog 84 #[.slice (some ⟨b, o, none⟩) e.length c, .int .i64 a, .bool false] W fun r w' => r = .returned (.int .i64 (j : Int)) ∧ Below W.heap.size W w' := fun W hW => by
             have := HIH.out W false hW; rw [hv] at this; exact this
           have HC2 := Lib.hid HC
           have HKN : Hid (bGo e f (.more P false ⟨#[]⟩) (i + 1) = bGo e fk2 (.more c3 false l) j) := by
             have := HK3.out _ hv
             have h3 := HV.out
             rw [HPP.out, hr] at h3
             exact h3.symm.trans this
           clear HC hv
           go_wp2_with (go_at_call 84; refine (HC2.out _ (Below.refl _ _)).mono ?_; rintro r w3 ⟨rfl, hb3⟩)
           go_roundw
           case rel => exact ⟨k + 1, c3, fk2, j, l, rfl, by go_num, rfl, by omega, by omega, by omega, by omega, by omega, by omega, HKN, hbr.trans (hb3.mono hbr.size)⟩
           case measure => simp [intOf]; omega
   · obtain rfl : c2 = 0 := by omega
     have HVS : Hid (bGo e (f + 1) (.one (x.op == 7)) i = some a) := by
       show _ = _
       rw [HV.out, HPP.out, HK.out]
       cases fk <;> simp [bGo]
     go_wp2_with fail
     go_ret
     exact ⟨ret_int (by rw [HVS.out]; rfl), hwr⟩
end Go.Proofs.YtpheiojmcafolaaGreatDoor
namespace Go.Proofs.YtpheiojmcafolaaGreatDoor
open Go.RowKit
theorem beh_all (e : List Nd) : ∀ f i, BehOk e f i := by
 intro f
 induction f using Nat.strongRecOn with
 | _ f ih =>
   intro i
   by_cases hi : e.length ≤ i
   · exact beh_out e f i hi
   · have hil : i < e.length := by omega
     cases f with
     | zero => intro w A c fld hf; omega
     | succ f =>
       have hx : e[i]? = some e[i] := List.getElem?_eq_getElem hil
       cases hsh : shapedT e[i] with
       | false => exact beh_bad e f i _ hx hsh
       | true =>
         intro w A c fld hf hc hcm him hok hsl
         by_cases h7 : (e[i].op == 7) = fld
         · exact beh_yes e f i _ hx hsh (fun f' hf i' => ih f' (by omega) i') w A c fld h7 hf hc hcm him hok hsl
         · exact beh_no e f i _ hx hsh w A c fld h7 hf hc hcm him hok hsl
set_option maxHeartbeats 800000 in
theorem tree_Check (e : List Nd) (A : Option Addr) (c : Nat) (w : World) (hc : e.length ≤ c) (hcm : c ≤ 9223372036854775807) (hok : NdOk e) (hsl : NdSl w w.heap.size A e) :
   Calls Tryz.prog 49 #[.slice A e.length c] w fun r w' => r = .returned (errV (treeErr e)) ∧ Below w.heap.size w w' := by
 by_cases h : 200 < e.length
 · have HV : Hid (treeErr e = 4) := by show _ = _; simp [treeErr, h]
   clear hok hsl
   go_enter Tryz.func49, Tryz.ntmps49
   go_wp2_with fail
   go_ret
   exact ⟨ret_val (by rw [HV.out]; rfl), Below.refl _ _⟩
 · have hb := beh_all e (2 * e.length) 0 w A c false (by omega) hc hcm (by omega) hok hsl
   cases hv : bGo e (2 * e.length) (.one false) 0 with
   | none =>
     have HV : Hid (treeErr e = 1) := by show _ = _; simp [treeErr, h, hv]
     rw [hv] at hb
     have HB : Hid (Calls Tryz.prog 84 #[.slice A e.length c, .int .i64 0, .bool false] w fun r w' => r = .returned (.int .i64 (-1)) ∧ Below w.heap.size w w') := hb
     clear hv hb hok hsl
     have hne : ((-1 : Int) != (e.length : Int)) = true := by rw [bne_iff_ne]; omega
     go_enter Tryz.func49, Tryz.ntmps49
     go_wp2_with (go_at_call 84; refine HB.out.mono ?_; rintro r w1 ⟨rfl, hb1⟩)
     go_ret
     exact ⟨ret_val (by rw [HV.out]; rfl), hb1⟩
   | some j =>
     have HV : Hid (treeErr e = if j = e.length then 0 else 1) := by show _ = _; simp [treeErr, h, hv]
     rw [hv] at hb
     have HB : Hid (Calls Tryz.prog 84 #[.slice A e.length c, .int .i64 0, .bool false] w fun r w' => r = .returned (.int .i64 (j : Int)) ∧ Below w.heap.size w w') := hb
     clear hv hb hok hsl
     by_cases hj : j = e.length
     · have hne : ((j : Int) != (e.length : Int)) = false := by rw [hj]; simp
       have HJ := Lib.hid hj
       clear hj
       go_enter Tryz.func49, Tryz.ntmps49
       go_wp2_with (go_at_call 84; refine HB.out.mono ?_; rintro r w1 ⟨rfl, hb1⟩)
       go_ret
       exact ⟨ret_val (by rw [HV.out, if_pos HJ.out]; rfl), hb1⟩
     · have hne : ((j : Int) != (e.length : Int)) = true := by rw [bne_iff_ne]; omega
       go_enter Tryz.func49, Tryz.ntmps49
       go_wp2_with (go_at_call 84; refine HB.out.mono ?_; rintro r w1 ⟨rfl, hb1⟩)
       go_ret
       exact ⟨ret_val (by rw [HV.out, if_neg hj]; rfl), hb1⟩
def NdsBack (w : World) (r : Ending) (w' : World) (xs : List Nd) (k : Int) : Prop :=
 ∃ A c, r = .returned (.tuple #[.slice A xs.length c, errV k]) ∧ xs.length ≤ c ∧ c ≤ 9223372036854775807 ∧ NdSl w' w'.heap.size A xs ∧ Below w.heap.size w w'
theorem NdsBack.none {w w' : World} {k : Int} (h : Below w.heap.size w w') : NdsBack w (.returned (.tuple #[.slice none 0 0, errV k])) w' [] k :=
 ⟨Option.none, 0, rfl, Nat.le_refl _, by omega, NdSl.nil _ _ _, h⟩
end Go.Proofs.YtpheiojmcafolaaGreatDoor
