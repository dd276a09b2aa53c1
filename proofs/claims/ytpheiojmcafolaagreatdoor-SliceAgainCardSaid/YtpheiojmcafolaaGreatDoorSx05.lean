/-
  THE WALKS of package tree: parts. THE WALKS: tree.shaped.
  THE WALKS: tree.behind.
  THE WALKS: tree.Check, Skip, End.
  THE WALKS: pol.Check.
  ARGUMENTS that are uids, scopes and policies, opened: what the row's reading says of memory.
  PLAIN WORDS: stores, requests, and what an expression's value is.
  UIDS AS A MAP's KEYS.
  ENTITIES IN MEMORY: their headers, and what these lead to.
  PLAIN LAWS: those above one in a store.
  MAPS KEYED BY UIDS: those that were met; a store by uid.
-/
import Derived.Test.YtpheiojmcafolaaGreatDoorSx04
import Derived.Test.YtpheiojmcafolaaGreatDoorSx01
import Derived.Test.YtpheiojmcafolaaGreatDoorSx03
import Derived.LoopN
import Derived.DeepKeys5
import Derived.Maps.OwnSet
import Derived.Maps.Views
import Derived.Maps.OwnOps
import Derived.Maps.RangeWalk
namespace Go.Proofs.YtpheiojmcafolaaGreatDoor
open Go.RowKit
set_option maxHeartbeats 1600000 in
theorem tree_parts (op n : Int) (s t : ByteArray) (w : World) :
   Calls Tryz.prog 106 #[.agg #[.int .i64 op, .int .i64 n, .string s, .string t]] w fun e w' => e = .returned (.int .i64 (ndParts ⟨op, n, s, t⟩)) ∧ Below w.heap.size w w' := by
 go_enter Tryz.func106, Tryz.ntmps106
 go_wp2
 all_goals
   go_ret
   refine ⟨ret_int ?_, (Below.refl _ _).alloc (Nat.le_refl _) _⟩
   simp only [beq_iff_eq, beq_eq_false_iff_ne] at *
   simp [ndParts, *]
set_option maxHeartbeats 1600000 in
theorem tree_Reserved (s : ByteArray) (w : World) :
   Calls Tryz.prog 168 #[.string s] w fun e w' => e = .returned (.bool (reserved s.toList)) ∧ w = w' := by
 go_enter Tryz.func168, Tryz.ntmps168
 go_wp2
 all_goals
   go_ret
   refine ⟨ret_bool ?_, rfl⟩
   first | (simp [reserved, *]; done) | simp_all
set_option maxHeartbeats 1600000 in
theorem tree_variable (s : ByteArray) (w : World) (hs : s.size ≤ 140737488351232) :
   Calls Tryz.prog 139 #[.string s] w fun e w' => e = .returned (.bool (variableB s.toList)) ∧ Below w.heap.size w w' := by
 by_cases h0 : 0 < s.size
 · have h0' : s.toList.isEmpty = false := toList_ne h0
   obtain ⟨l, hl0⟩ := toList_cons h0
   have HL := Lib.hid hl0
   have hx := extract_one s
   have HX : Hid ((s.extract 1 s.size).toList = l) := by rw [hl0] at hx; exact hx
   have hxs := extract_size s
   have HXS := Lib.hid hxs
   clear hl0 hx hxs
   by_cases hq : s[0] = 63
   · have hqi : ((s[0].toNat : Int) == 63) = true := by rw [hq]; rfl
     go_enter Tryz.func139, Tryz.ntmps139
     go_wp2_with (go_at_call 65; refine (name_Check _ _ (by have := HXS.out; omega)).mono ?_; rintro e w1 ⟨rfl, hb1⟩)
     go_ret
     exact ⟨ret_bool (by rw [HX.out, HL.out]; simp [variableB, hq]), hb1⟩
   · have hqi : ((s[0].toNat : Int) == 63) = false := by
       rw [beq_eq_false_iff_ne]; intro hc; apply hq; apply UInt8.toNat_inj.1; simp; omega
     have HV : Hid (variableB s.toList = (nameErr s.toList == 0 && !reserved s.toList)) := by show _ = _; rw [HL.out]; simp [variableB, hq]
     go_enter Tryz.func139, Tryz.ntmps139
     go_wp2_with (first | (go_at_call 65; refine (name_Check s _ hs).mono ?_; rintro e w1 ⟨rfl, hb1⟩) | (go_at_call 168; refine (tree_Reserved s _).mono ?_; rintro e w2 ⟨rfl, rfl⟩))
     all_goals
       go_ret
       refine ⟨ret_bool ?_, hb1⟩
       rw [HV.out]
       simp [*]
 · have h0' := toList_nil h0
   have h0'' : s.toList.isEmpty = true := by rw [h0']; rfl
   have HL := Lib.hid h0'
   clear h0'
   have HV : Hid (variableB s.toList = (nameErr s.toList == 0 && !reserved s.toList)) := by show _ = _; rw [HL.out]; rfl
   go_enter Tryz.func139, Tryz.ntmps139
   go_wp2_with (first | (go_at_call 65; refine (name_Check s _ hs).mono ?_; rintro e w1 ⟨rfl, hb1⟩) | (go_at_call 168; refine (tree_Reserved s _).mono ?_; rintro e w2 ⟨rfl, rfl⟩))
   all_goals
     go_ret
     refine ⟨ret_bool ?_, hb1⟩
     rw [HV.out]
     simp [*]
end Go.Proofs.YtpheiojmcafolaaGreatDoor
namespace Go.Proofs.YtpheiojmcafolaaGreatDoor
open Go.RowKit
set_option maxRecDepth 100000 in
set_option maxHeartbeats 4000000 in
theorem tree_shaped (op n : Int) (s t : ByteArray) (w : World) (hs : s.size ≤ 140737488351232) (ht : t.size ≤ 140737488351232) :
   Calls Tryz.prog 105 #[.agg #[.int .i64 op, .int .i64 n, .string s, .string t]] w fun e w' => e = .returned (.bool (shapedT ⟨op, n, s, t⟩)) ∧ Below w.heap.size w w' := by
 have hx : NdAt ((w.alloc (.cells #[.int .i64 op, .int .i64 n, .string s, .string t] 37)).alloc (.cells #[.int .i64 op, .int .i64 n, .string s, .string t] 37)) (w.heap.size + 1) 0 ⟨op, n, s, t⟩ := by
   constructor <;> simp [go_sem]
 have HX := Lib.hid hx
 clear hx
 go_enter Tryz.func105, Tryz.ntmps105
 go_wp2_with (first
   | (go_at_call 65; refine (name_Check _ _ hs).mono ?_; rintro e w1 ⟨rfl, hb1⟩)
   | (go_at_call 125; refine (name_Plain _ _ hs).mono ?_; rintro e w1 ⟨rfl, hb1⟩)
   | (go_at_call 139; refine (tree_variable _ _ hs).mono ?_; rintro e w1 ⟨rfl, hb1⟩)
   | (go_at_call 63; refine (val_Check1 ⟨op, n, s, t⟩ _ _ HX.out (by simp) hs ht).mono ?_; rintro e w1 ⟨rfl, hb1⟩)
   | (go_at_call 106; refine (tree_parts _ _ _ _ _).mono ?_; rintro e w1 ⟨rfl, hb1⟩; obtain ⟨hcc, hff⟩ := bcell hb1))
 all_goals
   go_ret
   refine ⟨ret_bool ?_, ?_⟩
   · simp only [beq_iff_eq, beq_eq_false_iff_ne] at *
     clear HX
     simp [shapedT, *]
     all_goals first | omega | (intros; omega) | (intros; subst_vars; assumption)
   · first
       | exact (Below.refl _ _).alloc (Nat.le_refl _) _
       | exact ((Below.refl _ _).alloc (Nat.le_refl _) _).trans (hb1.mono (by simp))
       | exact (((Below.refl _ _).alloc (Nat.le_refl _) _).alloc (by simp) _).trans (hb1.mono (by simp; omega))
end Go.Proofs.YtpheiojmcafolaaGreatDoor
namespace Go.Proofs.YtpheiojmcafolaaGreatDoor
open Go.RowKit
def BehOk (e : List Nd) (f i : Nat) : Prop := ∀ (w : World) (A : Option Addr) (c : Nat) (fld : Bool), 2 * (e.length - i) ≤ f → e.length ≤ c → c ≤ 9223372036854775807 → i ≤ 9223372036854775807 → NdOk e → NdSl w w.heap.size A e →
 Calls Tryz.prog 84 #[.slice A e.length c, .int .i64 i, .bool fld] w fun r w' => r = .returned (.int .i64 (bVal (bGo e f (.one fld) i))) ∧ Below w.heap.size w w'
set_option maxRecDepth 100000 in
set_option maxHeartbeats 4000000 in
theorem beh_out (e : List Nd) (f i : Nat) (h : e.length ≤ i) : BehOk e f i := by
 intro w A c fld hf hc hcm him hok hsl
 have HV : Hid (bGo e f (.one fld) i = none) := by
   show _ = _
   cases f <;> simp [bGo, List.getElem?_eq_none h]
 go_enter Tryz.func84, Tryz.ntmps84
 go_wp2_with fail
 go_ret
 exact ⟨ret_int (by rw [HV.out]; rfl), Below.refl _ _⟩
set_option maxRecDepth 100000 in
set_option maxHeartbeats 4000000 in
theorem beh_bad (e : List Nd) (f i : Nat) (x : Nd) (hx : e[i]? = some x) (hsh : shapedT x = false) : BehOk e (f + 1) i := by
 intro w A c fld hf hc hcm him hok hsl
 have hil : i < e.length := (List.getElem?_eq_some_iff.1 hx).1
 obtain ⟨b, o, rfl, hb, hcs⟩ := hsl.at_ hil
 obtain ⟨d0, d1, d2, d3⟩ := hcs i x hx
 obtain ⟨hxs, hxt⟩ := hok x (List.mem_of_getElem? hx)
 have HV : Hid (bGo e (f + 1) (.one fld) i = none) := by show _ = _; simp [bGo, hx, hsh]
 clear hcs hok hsl hx
 go_enter Tryz.func84, Tryz.ntmps84
 go_wp2_with (go_at_call 105; refine (tree_shaped x.op x.n x.s x.t _ hxs hxt).mono ?_; rintro r w1 ⟨rfl, hb1⟩)
 go_ret
 exact ⟨ret_int (by rw [HV.out]; rfl), hb1⟩
set_option maxRecDepth 100000 in
set_option maxHeartbeats 4000000 in
theorem beh_no (e : List Nd) (f i : Nat) (x : Nd) (hx : e[i]? = some x) (hsh : shapedT x = true) (w : World) (A : Option Addr) (c : Nat) (fld : Bool) (hfld : (x.op == 7) ≠ fld)
   (_hf : 2 * (e.length - i) ≤ f + 1) (_hc : e.length ≤ c) (_hcm : c ≤ 9223372036854775807) (_him : i ≤ 9223372036854775807) (hok : NdOk e) (hsl : NdSl w w.heap.size A e) :
   Calls Tryz.prog 84 #[.slice A e.length c, .int .i64 i, .bool fld] w fun r w' => r = .returned (.int .i64 (bVal (bGo e (f + 1) (.one fld) i))) ∧ Below w.heap.size w w' := by
 have hil : i < e.length := (List.getElem?_eq_some_iff.1 hx).1
 obtain ⟨b, o, rfl, hb, hcs⟩ := hsl.at_ hil
 obtain ⟨d0, d1, d2, d3⟩ := hcs i x hx
 obtain ⟨hxs, hxt⟩ := hok x (List.mem_of_getElem? hx)
 have HV : Hid (bGo e (f + 1) (.one fld) i = none) := by show _ = _; simp [bGo, hx, hsh, hfld]
 clear hcs hok hsl hx
 cases fld with
 | false =>
   have p7 : (x.op == 7) = true := by simpa using hfld
   clear hfld
   go_enter Tryz.func84, Tryz.ntmps84
   go_wp2_with (go_at_call 105; refine (tree_shaped x.op x.n x.s x.t _ hxs hxt).mono ?_; rintro r w1 ⟨rfl, hb1⟩; obtain ⟨hcc, hff⟩ := bcell hb1)
   go_ret
   exact ⟨ret_int (by rw [HV.out]; rfl), hb1⟩
 | true =>
   have p7 : (x.op == 7) = false := by simpa using hfld
   clear hfld
   go_enter Tryz.func84, Tryz.ntmps84
   go_wp2_with (go_at_call 105; refine (tree_shaped x.op x.n x.s x.t _ hxs hxt).mono ?_; rintro r w1 ⟨rfl, hb1⟩; obtain ⟨hcc, hff⟩ := bcell hb1)
   go_ret
   exact ⟨ret_int (by rw [HV.out]; rfl), hb1⟩
set_option maxRecDepth 100000 in
set_option maxHeartbeats 4000000 in
theorem beh_yes (e : List Nd) (f i : Nat) (x : Nd) (hx : e[i]? = some x) (hsh : shapedT x = true) (ih : ∀ f', f' ≤ f → ∀ i', BehOk e f' i') (w : World) (A : Option Addr) (c : Nat) (fld : Bool) (hfld : (x.op == 7) = fld)
   (hf : 2 * (e.length - i) ≤ f + 1) (hc : e.length ≤ c) (hcm : c ≤ 9223372036854775807) (him : i ≤ 9223372036854775807) (hok : NdOk e) (hsl : NdSl w w.heap.size A e) :
   Calls Tryz.prog 84 #[.slice A e.length c, .int .i64 i, .bool fld] w fun r w' => r = .returned (.int .i64 (bVal (bGo e (f + 1) (.one fld) i))) ∧ Below w.heap.size w w' := by
 have hil : i < e.length := (List.getElem?_eq_some_iff.1 hx).1
 obtain ⟨b, o, rfl, hb, hcs⟩ := hsl.at_ hil
 obtain ⟨d0, d1, d2, d3⟩ := hcs i x hx
 obtain ⟨hxs, hxt⟩ := hok x (List.mem_of_getElem? hx)
 have HV : Hid (bGo e (f + 1) (.one fld) i = bGo e f (.more (ndParts x).toNat (x.op == 6) ⟨#[]⟩) (i + 1)) := by show _ = _; simp [bGo, hx, hsh, hfld]
 have HS := Lib.hid hsl
 have HOK := Lib.hid hok
 have HI := Lib.hid ih
 have hdl : decide (e.length ≤ i) = false := by simp; omega
 have hdi : decide ((i : Int) < 0) = false := by simp
 obtain ⟨P, hP⟩ := Int.eq_ofNat_of_zero_le (shapedT_parts x hsh)
 have htp : ∀ W, Calls Tryz.prog 106 #[.agg #[.int .i64 x.op, .int .i64 x.n, .string x.s, .string x.t]] W fun e w' => e = .returned (.int .i64 (P : Int)) ∧ Below W.heap.size W w' := fun W => by
   rw [← hP]; exact tree_parts x.op x.n x.s x.t W
 have HTP := Lib.hid htp
 have HPP : Hid ((ndParts x).toNat = P) := by show _ = _; rw [hP]; rfl
 clear hcs hok hsl hx ih htp hP
 subst hfld
 go_enter Tryz.func84, Tryz.ntmps84
 go_wp2_with (first
   | (go_at_call 105; refine (tree_shaped x.op x.n x.s x.t _ hxs hxt).mono ?_; rintro r w1 ⟨rfl, hb1⟩; obtain ⟨hcc, hff⟩ := bcell hb1)
   | (go_at_call 106; refine (HTP.out _).mono ?_; rintro r w2 ⟨rfl, hb2⟩))
 have hz1 := hb1.size
 have hz2 : w1.heap.size + 1 ≤ w2.heap.size := by have := hb2.size; simpa using this
 have hw2 : Below w.heap.size w w2 := (hb1.alloc hb1.size _).trans (hb2.mono (by simp; omega))
 have hn2 : w2.cell? ⟨w1.heap.size, 0, none⟩ = some (.int .i64 x.op) := by rw [hb2.cell (p := ⟨w1.heap.size, 0, none⟩) (by simp)]; simp [go_sem]
 have HN2 := Lib.hid hn2
 clear hn2 hcc hff
 go_loopw [1, 8, 43] (fun at_ last kk wr => ∃ (k c2 fk a : Nat) (l : ByteArray), at_ = .int .i64 a ∧ kk = .int .i64 k ∧ last = .string l ∧ k + c2 = P ∧ i + 1 ≤ a ∧ a ≤ e.length ∧ k ≤ a ∧ fk ≤ f ∧ 2 * (e.length - a) + 1 ≤ fk ∧
     Hid (bGo e f (.more P (x.op == 6) ⟨#[]⟩) (i + 1) = bGo e fk (.more c2 (x.op == 6) l) a) ∧ Below w2.heap.size w2 wr)
   (fun _ _ kk _ => P - (intOf kk).toNat)
 case atStart => exact ⟨0, P, f, i + 1, ⟨#[]⟩, by go_num, rfl, rfl, by omega, by omega, by omega, by omega, by omega, by omega, rfl, Below.refl _ _⟩
 case round =>
   obtain ⟨k, c2, fk, a, l, rfl, rfl, rfl, hkc, hia, hal, hka, hff2, hfk, HK, hbr⟩ := hrel
   have hzr := hbr.size
   have hnr : wr.cell? ⟨w1.heap.size, 0, none⟩ = some (.int .i64 x.op) := (hbr.cell (p := ⟨w1.heap.size, 0, none⟩) (by simp; omega)).trans HN2.out
   have hwr : Below w.heap.size w wr := hw2.trans (hbr.mono (by omega))
   by_cases hkP : k < P
   · obtain ⟨c3, rfl⟩ : ∃ c3, c2 = c3 + 1 := ⟨c2 - 1, by omega⟩
     obtain ⟨fk2, rfl⟩ : ∃ fk2, fk = fk2 + 1 := ⟨fk - 1, by omega⟩
     by_cases hae : e.length ≤ a
     · have HVN : Hid (bGo e (f + 1) (.one (x.op == 7)) i = none) := by
         show _ = _
         rw [HV.out, HPP.out, HK.out]; simp [bGo, List.getElem?_eq_none hae]
       go_wp2_with fail
       go_ret
       exact ⟨ret_int (by rw [HVN.out]; rfl), hwr⟩
     · have hal2 : a < e.length := by omega
       obtain ⟨m, hm⟩ : ∃ m, e[a]? = some m := ⟨_, List.getElem?_eq_getElem hal2⟩
       have hcs : ∀ i x, e[i]? = some x → NdAt wr b (o + i * 4) x := by
         obtain ⟨b', o', h1, _, h2⟩ := (HS.out.below hwr).at_ hal2
         injection h1 with h1; injection h1 with h1 h3; subst h1 h3; exact h2
       obtain ⟨m0, m1, m2, m3⟩ := hcs a m hm
       have HM := Lib.hid hm
       have hih := fun (W : World) (r : Bool) (hW : Below wr.heap.size wr W) => HI.out fk2 (by omega) a W (some ⟨b, o, none⟩) c r (by omega) hc hcm (by omega) HOK.out (((HS.out.below hwr).below (hW.mono (by have := hwr.size; omega))).more (Nat.le_trans hwr.size hW.size))
       have HIH := Lib.hid hih
       clear hcs hm hih m1 m3 m0
       cases hr : (x.op == 6) with
       | true =>
         by_cases hlate : sLate l m.s = true
         · have HVN : Hid (bGo e (f + 1) (.one (x.op == 7)) i = none) := by
             have h1 := HM.out
             show _ = _
             rw [HV.out, HPP.out, HK.out, hr]; simp [bGo, h1, hlate]
           unfold sLate at hlate
           go_wp2_with fail
           go_ret
           exact ⟨ret_int (by rw [HVN.out]; rfl), hwr⟩
         · have hlate : sLate l m.s = false := by simpa using hlate
           have HK2 : ∀ v, bGo e fk2 (.one true) a = v → Hid (bGo e (f + 1) (.one (x.op == 7)) i = match v with | none => none | some j => bGo e fk2 (.more c3 true m.s) j) := by
             intro v hv
             have h1 := HM.out
             show _ = _
             rw [HV.out, HPP.out, HK.out, hr]; simp [bGo, h1, hv, hlate]
             cases v <;> rfl
           have HK3 := Lib.hid HK2
           clear HK2
           unfold sLate at hlate
           cases hv : bGo e fk2 (.one true) a with
           | none =>
             have HC : ∀ W, Below wr.heap.size wr W → Calls Tryz.prog 84 #[.slice (some ⟨b, o, none⟩) e.length c, .int .i64 a, .bool true] W fun r w' => r = .returned (.int .i64 (-1)) ∧ Below W.heap.size W w' := fun W hW => by
               have := HIH.out W true hW; rw [hv] at this; exact this
             have HC2 := Lib.hid HC
             have HVN := HK3.out none hv
             clear HC hv
             go_wp2_with (go_at_call 84; refine (HC2.out _ (Below.refl _ _)).mono ?_; rintro r w3 ⟨rfl, hb3⟩)
             go_ret
             exact ⟨ret_int (by rw [HVN.out]; rfl), hwr.trans (hb3.mono hwr.size)⟩
           | some j =>
             obtain ⟨hjl, _, haj⟩ := bGo_bound e fk2 (.one true) a j hv
             have hjl := hjl hal
             have haj := haj _ rfl
             have HC : ∀ W, Below wr.heap.size wr W → Calls Tryz.prog 84 #[.slice (some ⟨b, o, none⟩) e.length c, .int .i64 a, .bool true] W fun r w' => r = .returned (.int .i64 (j : Int)) ∧ Below W.heap.size W w' := fun W hW => by
               have := HIH.out W true hW; rw [hv] at this; exact this
             have HC2 := Lib.hid HC
             have HKN : Hid (bGo e f (.more P true ⟨#[]⟩) (i + 1) = bGo e fk2 (.more c3 true m.s) j) := by
               have := HK3.out _ hv
               have h3 := HV.out
               rw [HPP.out, hr] at h3
               exact h3.symm.trans this
             clear HC hv
             go_wp2_with (go_at_call 84; refine (HC2.out _ (Below.refl _ _)).mono ?_; rintro r w3 ⟨rfl, hb3⟩)
             go_roundw
             case rel => exact ⟨k + 1, c3, fk2, j, m.s, rfl, by go_num, rfl, by omega, by omega, by omega, by omega, by omega, by omega, HKN, hbr.trans (hb3.mono hbr.size)⟩
             case measure => simp [intOf]; omega
       | false =>
         have HK2 : ∀ v, bGo e fk2 (.one false) a = v → Hid (bGo e (f + 1) (.one (x.op == 7)) i = match v with | none => none | some j => bGo e fk2 (.more c3 false l) j) := by
           intro v hv
           have h1 := HM.out
           show _ = _
           rw [HV.out, HPP.out, HK.out, hr]; simp [bGo, h1, hv]
           cases v <;> rfl
         have HK3 := Lib.hid HK2
         clear HK2
         cases hv : bGo e fk2 (.one false) a with
         | none =>
           have HC : ∀ W, Below wr.heap.size wr W → Calls Tryz.prog 84 #[.slice (some ⟨b, o, none⟩) e.length c, .int .i64 a, .bool false] W fun r w' => r = .returned (.int .i64 (-1)) ∧ Below W.heap.size W w' := fun W hW => by
             have := HIH.out W false hW; rw [hv] at this; exact this
           have HC2 := Lib.hid HC
           have HVN := HK3.out none hv
           clear HC hv
           go_wp2_with (go_at_call 84; refine (HC2.out _ (Below.refl _ _)).mono ?_; rintro r w3 ⟨rfl, hb3⟩)
           go_ret
           exact ⟨ret_int (by rw [HVN.out]; rfl), hwr.trans (hb3.mono hwr.size)⟩
         | some j =>
           obtain ⟨hjl, _, haj⟩ := bGo_bound e fk2 (.one false) a j hv
           have hjl := hjl hal
           have haj := haj _ rfl
           have HC : ∀ W, Below wr.heap.size wr W → Calls Tryz.prog 84 #[.slice (some ⟨b, o, none⟩) e.length c, .int .i64 a, .bool false] W fun r w' => r = .returned (.int .i64 (j : Int)) ∧ Below W.heap.size W w' := fun W hW => by
             have := HIH.out W false hW; rw [hv] at this; exact this
           have HC2 := Lib.hid HC
           have HKN : Hid (bGo e f (.more P false ⟨#[]⟩) (i + 1) = bGo e fk2 (.more c3 false l) j) := by
             have := HK3.out _ hv
             have h3 := HV.out
             rw [HPP.out, hr] at h3
             exact h3.symm.trans this
           clear HC hv
           go_wp2_with (go_at_call 84; refine (HC2.out _ (Below.refl _ _)).mono ?_; rintro r w3 ⟨rfl, hb3⟩)
           go_roundw
           case rel => exact ⟨k + 1, c3, fk2, j, l, rfl, by go_num, rfl, by omega, by omega, by omega, by omega, by omega, by omega, HKN, hbr.trans (hb3.mono hbr.size)⟩
           case measure => simp [intOf]; omega
   · obtain rfl : c2 = 0 := by omega
     have HVS : Hid (bGo e (f + 1) (.one (x.op == 7)) i = some a) := by
       show _ = _
       rw [HV.out, HPP.out, HK.out]
       cases fk <;> simp [bGo]
     go_wp2_with fail
     go_ret
     exact ⟨ret_int (by rw [HVS.out]; rfl), hwr⟩
end Go.Proofs.YtpheiojmcafolaaGreatDoor
namespace Go.Proofs.YtpheiojmcafolaaGreatDoor
open Go.RowKit
theorem beh_all (e : List Nd) : ∀ f i, BehOk e f i := by
 intro f
 induction f using Nat.strongRecOn with
 | _ f ih =>
   intro i
   by_cases hi : e.length ≤ i
   · exact beh_out e f i hi
   · have hil : i < e.length := by omega
     cases f with
     | zero => intro w A c fld hf; omega
     | succ f =>
       have hx : e[i]? = some e[i] := List.getElem?_eq_getElem hil
       cases hsh : shapedT e[i] with
       | false => exact beh_bad e f i _ hx hsh
       | true =>
         intro w A c fld hf hc hcm him hok hsl
         by_cases h7 : (e[i].op == 7) = fld
         · exact beh_yes e f i _ hx hsh (fun f' hf i' => ih f' (by omega) i') w A c fld h7 hf hc hcm him hok hsl
         · exact beh_no e f i _ hx hsh w A c fld h7 hf hc hcm him hok hsl
set_option maxHeartbeats 800000 in
theorem tree_Check (e : List Nd) (A : Option Addr) (c : Nat) (w : World) (hc : e.length ≤ c) (hcm : c ≤ 9223372036854775807) (hok : NdOk e) (hsl : NdSl w w.heap.size A e) :
   Calls Tryz.prog 49 #[.slice A e.length c] w fun r w' => r = .returned (errV (treeErr e)) ∧ Below w.heap.size w w' := by
 by_cases h : 200 < e.length
 · have HV : Hid (treeErr e = 4) := by show _ = _; simp [treeErr, h]
   clear hok hsl
   go_enter Tryz.func49, Tryz.ntmps49
   go_wp2_with fail
   go_ret
   exact ⟨ret_val (by rw [HV.out]; rfl), Below.refl _ _⟩
 · have hb := beh_all e (2 * e.length) 0 w A c false (by omega) hc hcm (by omega) hok hsl
   cases hv : bGo e (2 * e.length) (.one false) 0 with
   | none =>
     have HV : Hid (treeErr e = 1) := by show _ = _; simp [treeErr, h, hv]
     rw [hv] at hb
     have HB : Hid (Calls Tryz.prog 84 #[.slice A e.length c, .int .i64 0, .bool false] w fun r w' => r = .returned (.int .i64 (-1)) ∧ Below w.heap.size w w') := hb
     clear hv hb hok hsl
     have hne : ((-1 : Int) != (e.length : Int)) = true := by rw [bne_iff_ne]; omega
     go_enter Tryz.func49, Tryz.ntmps49
     go_wp2_with (go_at_call 84; refine HB.out.mono ?_; rintro r w1 ⟨rfl, hb1⟩)
     go_ret
     exact ⟨ret_val (by rw [HV.out]; rfl), hb1⟩
   | some j =>
     have HV : Hid (treeErr e = if j = e.length then 0 else 1) := by show _ = _; simp [treeErr, h, hv]
     rw [hv] at hb
     have HB : Hid (Calls Tryz.prog 84 #[.slice A e.length c, .int .i64 0, .bool false] w fun r w' => r = .returned (.int .i64 (j : Int)) ∧ Below w.heap.size w w') := hb
     clear hv hb hok hsl
     by_cases hj : j = e.length
     · have hne : ((j : Int) != (e.length : Int)) = false := by rw [hj]; simp
       have HJ := Lib.hid hj
       clear hj
       go_enter Tryz.func49, Tryz.ntmps49
       go_wp2_with (go_at_call 84; refine HB.out.mono ?_; rintro r w1 ⟨rfl, hb1⟩)
       go_ret
       exact ⟨ret_val (by rw [HV.out, if_pos HJ.out]; rfl), hb1⟩
     · have hne : ((j : Int) != (e.length : Int)) = true := by rw [bne_iff_ne]; omega
       go_enter Tryz.func49, Tryz.ntmps49
       go_wp2_with (go_at_call 84; refine HB.out.mono ?_; rintro r w1 ⟨rfl, hb1⟩)
       go_ret
       exact ⟨ret_val (by rw [HV.out, if_neg hj]; rfl), hb1⟩
def NdsBack (w : World) (r : Ending) (w' : World) (xs : List Nd) (k : Int) : Prop :=
 ∃ A c, r = .returned (.tuple #[.slice A xs.length c, errV k]) ∧ xs.length ≤ c ∧ c ≤ 9223372036854775807 ∧ NdSl w' w'.heap.size A xs ∧ Below w.heap.size w w'
theorem NdsBack.none {w w' : World} {k : Int} (h : Below w.heap.size w w') : NdsBack w (.returned (.tuple #[.slice none 0 0, errV k])) w' [] k :=
 ⟨Option.none, 0, rfl, Nat.le_refl _, by omega, NdSl.nil _ _ _, h⟩
end Go.Proofs.YtpheiojmcafolaaGreatDoor
namespace Go.Proofs.YtpheiojmcafolaaGreatDoor
open Go.RowKit
structure CdM where
 u : Bool
 A : Option Addr
 c : Nat
 e : List Nd
def CdM.cells (x : CdM) : List Value := [.bool x.u, .slice x.A x.e.length x.c]
def CdM.cd (x : CdM) : Cd := ⟨x.u, x.e⟩
theorem cd_ok : EncOk CdM.cells 2 := ⟨fun _ => rfl, by omega, fun x u hu => by
 simp only [CdM.cells, List.mem_cons, List.not_mem_nil, or_false] at hu
 rcases hu with rfl | rfl <;> rfl⟩
abbrev CdSl := SlG CdM.cells 2
structure CdGood (w : World) (B : Nat) (x : CdM) : Prop where
 sl : NdSl w B x.A x.e
 le : x.e.length ≤ x.c
 max : x.c ≤ 9223372036854775807
 ok : NdOk x.e
structure CdsAt (w : World) (B : Nat) (A : Option Addr) (cs : List CdM) : Prop where
 sl : CdSl w B A cs
 good : ∀ x ∈ cs, CdGood w B x
theorem CdGood.below {w w' : World} {B : Nat} {x : CdM} (h : CdGood w B x) (hb : Below B w w') : CdGood w' B x := ⟨h.sl.below hb, h.le, h.max, h.ok⟩
theorem CdGood.more {w : World} {B B' : Nat} {x : CdM} (h : CdGood w B x) (hB : B ≤ B') : CdGood w B' x := ⟨h.sl.more hB, h.le, h.max, h.ok⟩
theorem CdsAt.later {w w' : World} {A : Option Addr} {cs : List CdM} (h : CdsAt w w.heap.size A cs) (hb : Below w.heap.size w w') : CdsAt w' w'.heap.size A cs :=
 ⟨h.sl.later hb, fun x hx => ((h.good x hx).below hb).more hb.size⟩
structure CdAt (w : World) (b o : Nat) (x : CdM) : Prop where
 c0 : w.cell? ⟨b, o, none⟩ = some (.bool x.u)
 c1 : w.cell? ⟨b, o + 1, none⟩ = some (.slice x.A x.e.length x.c)
theorem cdAt {w : World} {b o : Nat} {x : CdM} (h : AtG CdM.cells w b o x) : CdAt w b o x := ⟨h 0 _ rfl, h 1 _ rfl⟩
theorem cdSl_at {w : World} {B : Nat} {A : Option Addr} {xs : List CdM} (h : CdSl w B A xs) {i : Nat} {x : CdM} (hx : xs[i]? = some x) : ∃ b o, A = some ⟨b, o, none⟩ ∧ b < B ∧ CdAt w b (o + i * 2) x := by
 obtain ⟨b, o, h1, h2, h3⟩ := h.at_ (List.getElem?_eq_some_iff.1 hx).1
 exact ⟨b, o, h1, h2, cdAt (h3 i x hx)⟩
def PoZ (p : Po) : Prop := p.name.size ≤ 140737488351232 ∧ ScZ p.who ∧ ScZ p.act ∧ ScZ p.what
theorem cds_bad {cs : List CdM} {k : Nat} {x : CdM} (h : ∀ i y, i < k → cs[i]? = some y → cdErr y.e = 0) (hx : cs[k]? = some x) (hb : ¬ cdErr x.e = 0) : cdsErr (cs.map CdM.cd) = cdErr x.e := by
 induction cs generalizing k with
 | nil => simp at hx
 | cons y r ih =>
   cases k with
   | zero =>
     simp at hx
     subst hx
     show (if cdErr y.e ≠ 0 then cdErr y.e else _) = _
     rw [if_pos hb]
   | succ k =>
     have h0 := h 0 y (by omega) rfl
     show (if cdErr y.e ≠ 0 then cdErr y.e else cdsErr (r.map CdM.cd)) = _
     rw [if_neg (fun hn => hn h0)]
     exact ih (fun i z hi hz => h (i + 1) z (by omega) hz) hx
theorem cds_good {cs : List CdM} (h : ∀ (i : Nat) (y : CdM), cs[i]? = some y → cdErr y.e = 0) : cdsErr (cs.map CdM.cd) = 0 := by
 induction cs with
 | nil => rfl
 | cons y r ih =>
   show (if cdErr y.e ≠ 0 then cdErr y.e else cdsErr (r.map CdM.cd)) = _
   rw [if_neg (fun hn => hn (h 0 y rfl))]
   exact ih (fun i z hz => h (i + 1) z hz)
theorem scope_at0 (a0 a1 a2 a3 a4 a5 a6 a7 a8 a9 a10 a11 : Value) (W : World) : (Instr.index 150 (.agg #[a0, a1, a2, a3, a4, a5, a6, a7, a8, a9, a10, a11]) (.int .i64 0)).run Tryz.prog W = .ok (.agg #[a0, a1, a2, a3]) W := by kernel_rfl
theorem scope_at1 (a0 a1 a2 a3 a4 a5 a6 a7 a8 a9 a10 a11 : Value) (W : World) : (Instr.index 150 (.agg #[a0, a1, a2, a3, a4, a5, a6, a7, a8, a9, a10, a11]) (.int .i64 1)).run Tryz.prog W = .ok (.agg #[a4, a5, a6, a7]) W := by kernel_rfl
theorem scope_at2 (a0 a1 a2 a3 a4 a5 a6 a7 a8 a9 a10 a11 : Value) (W : World) : (Instr.index 150 (.agg #[a0, a1, a2, a3, a4, a5, a6, a7, a8, a9, a10, a11]) (.int .i64 2)).run Tryz.prog W = .ok (.agg #[a8, a9, a10, a11]) W := by kernel_rfl
set_option maxRecDepth 100000 in
set_option maxHeartbeats 6400000 in
theorem pol_Check (p : Po) (cs : List CdM) (A : Option Addr) (c : Nat) (w : World) (hp : p.conds = cs.map CdM.cd) (hz : PoZ p) (hc : CdsAt w w.heap.size A cs) (hl : cs.length ≤ 9223372036854775807) :
   Calls Tryz.prog 53 #[.agg #[.string p.name, .bool p.forbid, .int .i64 p.who.op, .string p.who.ty, .string p.who.uid.ty, .string p.who.uid.id, .int .i64 p.act.op, .string p.act.ty, .string p.act.uid.ty, .string p.act.uid.id, .int .i64 p.what.op, .string p.what.ty, .string p.what.uid.ty, .string p.what.uid.id, .slice A cs.length c]] w fun e w' => e = .returned (errV (polErr p)) ∧ Below w.heap.size w w' := by
 obtain ⟨q, hq⟩ : ∃ q, polErr p = q := ⟨_, rfl⟩
 rw [hq]
 have HQ := Lib.hid hq
 have HP := Lib.hid hp
 have HC := Lib.hid hc
 have HN := Lib.hid (fun W => name_Check p.name W hz.1)
 have HS0 := Lib.hid (fun W => pol_scope p.who true hz.2.1 W)
 have HS1 := Lib.hid (fun W => pol_scope p.act false hz.2.2.1 W)
 have HS2 := Lib.hid (fun W => pol_scope p.what true hz.2.2.2 W)
 have i0 := scope_at0
 have i1 := scope_at1
 have i2 := scope_at2
 clear hq hp hc hz
 by_cases hn : nameErr p.name.toList = 0
 · have tn : (nameErr p.name.toList != 0) = false := by simp [hn]
   go_enter Tryz.func53, Tryz.ntmps53
   go_wp2_with fail
   refine (HN.out _).mono ?_
   rintro e w1 ⟨rfl, hb1⟩
   obtain ⟨hcc, hff⟩ := bcell hb1
   have hlt1 : w.heap.size < w1.heap.size := by have := hb1.size; simp at this; omega
   have hb0 : Below w.heap.size w w1 := ((Below.refl _ _).alloc (Nat.le_refl _) _).trans (hb1.mono (by simp))
   clear hb1
   have hw1 : Below w.heap.size w w1 := hb0
   have d1 : w1.cell? ⟨w.heap.size, 14, none⟩ = some (.slice A cs.length c) := (hcc w.heap.size 14 (by simp)).trans (by rw [World.cell?_alloc_new]; rfl)
   go_wp2_with fail
   refine wp_loop_rounds 4 ?_
   clear hcc hff
   rw [rounds_succ]
   by_cases s0 : scOk p.who true = true
   · have e0 : scV p.who true = 0 := by rw [scV, if_pos s0]
     rw [e0] at HS0
     clear e0
     go_wp2_with fail
     refine (HS0.out _).mono ?_
     rintro e w2 ⟨rfl, hb2⟩
     have d2 : w2.cell? ⟨w.heap.size, 14, none⟩ = some (.slice A cs.length c) := (hb2.cell (p := ⟨w.heap.size, 14, none⟩) (by simp; omega)).trans ((World.cell?_alloc_lt _ _ ⟨w.heap.size, 14, none⟩ (by first | assumption | omega)).trans d1)
     have hlt2 : w.heap.size < w2.heap.size := by have := hb2.size; simp at this; omega
     have hw2 : Below w.heap.size w w2 := (hw1.alloc hw1.size _).trans (hb2.mono (by simp; have := hw1.size; omega))
     clear hb2 d1
     go_wp2_with fail
     rw [rounds_succ]
     by_cases s1 : scOk p.act false = true
     · have e1 : scV p.act false = 0 := by rw [scV, if_pos s1]
       rw [e1] at HS1
       clear e1
       go_wp2_with fail
       refine (HS1.out _).mono ?_
       rintro e w3 ⟨rfl, hb3⟩
       have d3 : w3.cell? ⟨w.heap.size, 14, none⟩ = some (.slice A cs.length c) := (hb3.cell (p := ⟨w.heap.size, 14, none⟩) (by simp; omega)).trans ((World.cell?_alloc_lt _ _ ⟨w.heap.size, 14, none⟩ (by first | assumption | omega)).trans d2)
       have hlt3 : w.heap.size < w3.heap.size := by have := hb3.size; simp at this; omega
       have hw3 : Below w.heap.size w w3 := (hw2.alloc hw2.size _).trans (hb3.mono (by simp; have := hw2.size; omega))
       clear hb3 d2
       go_wp2_with fail
       rw [rounds_succ]
       by_cases s2 : scOk p.what true = true
       · have e2 : scV p.what true = 0 := by rw [scV, if_pos s2]
         rw [e2] at HS2
         clear e2
         go_wp2_with fail
         refine (HS2.out _).mono ?_
         rintro e w4 ⟨rfl, hb4⟩
         have d4 : w4.cell? ⟨w.heap.size, 14, none⟩ = some (.slice A cs.length c) := (hb4.cell (p := ⟨w.heap.size, 14, none⟩) (by simp; omega)).trans ((World.cell?_alloc_lt _ _ ⟨w.heap.size, 14, none⟩ (by first | assumption | omega)).trans d3)
         have hlt4 : w.heap.size < w4.heap.size := by have := hb4.size; simp at this; omega
         have hw4 : Below w.heap.size w w4 := (hw3.alloc hw3.size _).trans (hb4.mono (by simp; have := hw3.size; omega))
         clear hb4 d3
         go_wp2_with fail
         rw [rounds_succ]
         have HQ2 : Hid (q = if 4 < cs.length then 4 else cdsErr (cs.map CdM.cd)) := by
           show _ = _
           rw [← HQ.out, polErr, if_neg (by simp [hn]), if_neg (by simp [s0, s1, s2]), HP.out, List.length_map]
         clear s0 s1 s2 hn HN HS0 HS1 HS2 HQ HP tn
         by_cases h4 : 4 < cs.length
         · rw [if_pos h4] at HQ2
           have t4 : 4 < (cs.length : Int) := by omega
           go_wp2_with fail
           go_ret
           rw [HQ2.out]
           exact ⟨rfl, hw4⟩
         · rw [if_neg h4] at HQ2
           have t4 : ¬ 4 < (cs.length : Int) := by omega
           have HC4 := Lib.hid (HC.out.later hw4)
           go_wp2_with fail
           go_loopw [45] (fun ii wr => ∃ k : Nat, ii = .int .i64 k ∧ k ≤ cs.length ∧ Hid (∀ i y, i < k → cs[i]? = some y → cdErr y.e = 0) ∧ Below w4.heap.size w4 wr) (fun ii _ => cs.length - (intOf ii).toNat)
           case atStart => exact ⟨0, rfl, by omega, (fun i y hi => absurd hi (by omega)), Below.refl _ _⟩
           case round =>
             obtain ⟨k, rfl, hk, HK, hbr⟩ := hrel
             have hzr := hbr.size
             by_cases hlt : k < cs.length
             · obtain ⟨⟨u, Ax, cx, e⟩, hx⟩ : ∃ x, cs[k]? = some x := ⟨_, List.getElem?_eq_getElem hlt⟩
               have hg := HC4.out.good _ (List.mem_of_getElem? hx)
               obtain ⟨b, o, rfl, hb, ⟨c0, c1⟩⟩ := cdSl_at (HC4.out.sl.below hbr) hx
               have hbw : b < wr.heap.size := Nat.lt_of_lt_of_le hb hzr
               have HX := Lib.hid hx
               have HTC := Lib.hid (fun W (hW : Below w4.heap.size w4 W) => tree_Check e Ax cx W hg.le hg.max hg.ok ((hg.sl.below hW).more hW.size))
               have HG := Lib.hid hg
               clear hx hg
               by_cases ht : treeErr e = 0
               · have tt : (treeErr e != 0) = false := by simp [ht]
                 have HT := Lib.hid ht
                 have hel : e.length ≤ 200 := (tree_len ht).1
                 have HNE := Lib.hid (varNames_ne ht)
                 clear ht
                 go_wp2_with fail
                 refine (HTC.out _ (hbr.alloc hzr _)).mono ?_
                 rintro r w5 ⟨rfl, hb5⟩
                 obtain ⟨hcc, hff⟩ := bcell hb5
                 have hlt5 : wr.heap.size < w5.heap.size := by have := hb5.size; simp at this; omega
                 have hw5 : Below w4.heap.size w4 w5 := (hbr.alloc hzr _).trans (hb5.mono (by simp; omega))
                 have c5 : w5.cell? ⟨wr.heap.size, 1, none⟩ = some (.slice Ax e.length cx) := (hcc wr.heap.size 1 (by simp)).trans (by rw [World.cell?_alloc_new]; rfl)
                 clear hb5 hcc hff
                 go_wp2_with fail
                 go_loopw [58] (fun jj wi => ∃ j : Nat, jj = .int .i64 j ∧ j ≤ e.length ∧ Hid ((e.take j).any slotN = false) ∧ Below w4.heap.size w4 wi) (fun jj _ => e.length - (intOf jj).toNat)
                 case atStart => exact ⟨0, rfl, by omega, rfl, hw5⟩
                 case round =>
                   obtain ⟨j, rfl, hj, HJ, hbi⟩ := hrel
                   have hzi := hbi.size
                   by_cases hlj : j < e.length
                   · obtain ⟨y, hy⟩ : ∃ y, e[j]? = some y := ⟨_, List.getElem?_eq_getElem hlj⟩
                     obtain ⟨bn, on, rfl, hbn, hcs⟩ := (HG.out.sl.below hbi).at_ hlj
                     obtain ⟨f0, f1, f2, f3⟩ := hcs j y hy
                     have hbnw : bn < wr.heap.size := Nat.lt_of_lt_of_le hbn hzi
                     have hstep : (e.take (j + 1)).any slotN = slotN y := by rw [List.take_add_one, hy, List.any_append, HJ.out]; simp
                     have HST := Lib.hid hstep
                     have HY := Lib.hid hy
                     clear hcs hstep
                     by_cases h8 : y.op = 8
                     · have t8 : (y.op == 8) = true := by simp [h8]
                       have hs0 : 0 < y.s.size := by
                         rcases Nat.eq_zero_or_pos y.s.size with h | h
                         · exfalso
                           refine HNE.out (varNames_mem.2 ⟨y, List.mem_of_getElem? hy, t8, ?_⟩)
                           exact List.eq_nil_of_length_eq_zero (by rw [toList_len]; exact h)
                         · exact h
                       have hi0 := run_at_str y.s 0 hs0
                       obtain ⟨l0, hl0⟩ : ∃ r, y.s.toList = y.s[0] :: r := ⟨_, by have := list_drop y.s 0 hs0; rwa [List.drop_zero] at this⟩
                       have HSN : Hid (slotN y = (y.s[0] == 63)) := by show _ = _; unfold slotN slotB; rw [hl0, t8]; simp
                       clear hl0 h8 hy
                       by_cases h63 : y.s[0] = 63
                       · have t63 : ((y.s[0].toNat : Int) == 63) = true := beq_chr h63
                         have hcd : cdErr e = 1 := by
                           rw [cdErr, if_neg (by rw [HT.out]; simp), if_pos]
                           rw [List.any_eq_true]
                           exact ⟨y, List.mem_of_getElem? HY.out, by rw [HSN.out, h63]; rfl⟩
                         have hq : q = 1 := by rw [HQ2.out, cds_bad HK.out HX.out (by show ¬ cdErr e = 0; rw [hcd]; decide)]; exact hcd
                         have HQV := Lib.hid hq
                         clear hcd h63 hq
                         go_wp2_with fail
                         go_ret
                         rw [HQV.out]
                         exact ⟨rfl, hw4.trans (((hbi.alloc hzi _)).mono hw4.size)⟩
                       · have t63 : ((y.s[0].toNat : Int) == 63) = false := bne_chr h63
                         have HJ2 : Hid ((e.take (j + 1)).any slotN = false) := by show _ = _; rw [HST.out, HSN.out]; simpa using h63
                         clear h63
                         go_wp2_with fail
                         exact ⟨⟨j + 1, by go_num, by omega, HJ2, hbi.alloc hzi _⟩, by simp [intOf]; omega⟩
                     · have t8 : (y.op == 8) = false := by simp [h8]
                       have HJ2 : Hid ((e.take (j + 1)).any slotN = false) := by show _ = _; rw [HST.out]; unfold slotN; rw [t8]; rfl
                       clear h8 hy
                       go_wp2_with fail
                       exact ⟨⟨j + 1, by go_num, by omega, HJ2, hbi.alloc hzi _⟩, by simp [intOf]; omega⟩
                   · have hje : j = e.length := by omega
                     have HK2 : Hid (∀ i y, i < k + 1 → cs[i]? = some y → cdErr y.e = 0) := by
                       intro i y hi hy
                       rcases Nat.lt_or_ge i k with h | h
                       · exact HK.out i y h hy
                       · have : i = k := by omega
                         subst this
                         rw [HX.out] at hy
                         injection hy with hy
                         subst hy
                         have := HJ.out
                         rw [hje, List.take_of_length_le (Nat.le_refl _)] at this
                         show cdErr e = 0
                         rw [cdErr, if_neg (by rw [HT.out]; simp), if_neg (by rw [this]; simp)]
                     clear hje
                     go_wp2_with fail
                     exact ⟨⟨k + 1, by go_num, by omega, HK2, hbi⟩, by simp [intOf]; omega⟩
               · have tt : (treeErr e != 0) = true := by simp [ht]
                 have hq : q = treeErr e := by
                   have hcd : cdErr e = treeErr e := by rw [cdErr, if_pos ht]
                   rw [HQ2.out, cds_bad HK.out HX.out (by show ¬ cdErr e = 0; rw [hcd]; exact ht)]; exact hcd
                 have HQV := Lib.hid hq
                 clear ht hq
                 go_wp2_with fail
                 refine (HTC.out _ (hbr.alloc hzr _)).mono ?_
                 rintro r w5 ⟨rfl, hb5⟩
                 have hw5 : Below w4.heap.size w4 w5 := (hbr.alloc hzr _).trans (hb5.mono (by simp; omega))
                 go_wp2_with fail
                 go_ret
                 rw [HQV.out]
                 exact ⟨rfl, hw4.trans (hw5.mono hw4.size)⟩
             · have hq : q = 0 := by
                 rw [HQ2.out]
                 exact cds_good fun i y hy => HK.out i y (by have := (List.getElem?_eq_some_iff.1 hy).1; omega) hy
               have HQV := Lib.hid hq
               clear hq
               go_wp2_with fail
               go_ret
               rw [HQV.out]
               exact ⟨rfl, hw4.trans (hbr.mono hw4.size)⟩
       · have e2 : scV p.what true = 1 := by rw [scV, if_neg s2]
         have hv : q = 1 := by rw [← HQ.out, polErr, if_neg (by simp [hn]), if_pos]; simp [s0, s1, s2]
         rw [e2] at HS2
         have HV := Lib.hid hv
         clear hv e2 s2 hn s0 s1
         go_wp2_with fail
         refine (HS2.out _).mono ?_
         rintro e w4 ⟨rfl, hb4⟩
         have hw4 : Below w.heap.size w w4 := (hw3.alloc hw3.size _).trans (hb4.mono (by simp; have := hw3.size; omega))
         go_wp2_with fail
         go_ret
         rw [HV.out]
         exact ⟨rfl, hw4⟩
     · have e1 : scV p.act false = 1 := by rw [scV, if_neg s1]
       have hv : q = 1 := by rw [← HQ.out, polErr, if_neg (by simp [hn]), if_pos]; simp [s0, s1]
       rw [e1] at HS1
       have HV := Lib.hid hv
       clear hv e1 s1 hn s0
       go_wp2_with fail
       refine (HS1.out _).mono ?_
       rintro e w3 ⟨rfl, hb3⟩
       have hw3 : Below w.heap.size w w3 := (hw2.alloc hw2.size _).trans (hb3.mono (by simp; have := hw2.size; omega))
       go_wp2_with fail
       go_ret
       rw [HV.out]
       exact ⟨rfl, hw3⟩
   · have e0 : scV p.who true = 1 := by rw [scV, if_neg s0]
     have hv : q = 1 := by rw [← HQ.out, polErr, if_neg (by simp [hn]), if_pos]; simp [s0]
     rw [e0] at HS0
     have HV := Lib.hid hv
     clear hv e0 s0 hn
     go_wp2_with fail
     refine (HS0.out _).mono ?_
     rintro e w2 ⟨rfl, hb2⟩
     have hw2 : Below w.heap.size w w2 := (hw1.alloc hw1.size _).trans (hb2.mono (by simp; have := hw1.size; omega))
     go_wp2_with fail
     go_ret
     rw [HV.out]
     exact ⟨rfl, hw2⟩
 · have tn : (nameErr p.name.toList != 0) = true := by simp [hn]
   have hv : q = nameErr p.name.toList := by rw [← HQ.out, polErr, if_pos hn]
   rw [hv]
   clear hn
   go_enter Tryz.func53, Tryz.ntmps53
   go_wp2_with fail
   refine (HN.out _).mono ?_
   rintro e w1 ⟨rfl, hb1⟩
   go_wp2_with fail
   go_ret
   exact ⟨rfl, ((Below.refl _ _).alloc (Nat.le_refl _) _).trans (hb1.mono (by simp))⟩
end Go.Proofs.YtpheiojmcafolaaGreatDoor
namespace Go.Proofs.YtpheiojmcafolaaGreatDoor
set_option maxRecDepth 100000
open Go.ChangeShapes Go.WideShapes Go.RowKit Go.Deep
def udData {H : Type} (u : Ud) : DataW H := .agg [strD u.ty, strD u.id]
def scData {H : Type} (s : Sc) : DataW H := .agg [.lit (.int .i64 s.op), strD s.ty, udData s.uid]
theorem cells_bool : Tryz.prog.cellsOf 4 = 1 := by kernel_rfl
theorem cells_nodes : Tryz.prog.cellsOf 22 = 1 := by kernel_rfl
theorem cells_uid : Tryz.prog.cellsOf 34 = 2 := by kernel_rfl
theorem cells_scope : Tryz.prog.cellsOf 44 = 4 := by kernel_rfl
theorem cells_cond : Tryz.prog.cellsOf 53 = 2 := by kernel_rfl
theorem cells_conds : Tryz.prog.cellsOf 45 = 1 := by kernel_rfl
theorem cells_policy : Tryz.prog.cellsOf 47 = 15 := by kernel_rfl
theorem nd_ok : EncOk Nd.cells 4 := ⟨fun _ => rfl, by omega, fun x u hu => by
 simp only [Nd.cells, List.mem_cons, List.not_mem_nil, or_false] at hu
 rcases hu with rfl | rfl | rfl | rfl <;> rfl⟩
theorem SlG.nds {w : World} {B : Nat} {A : Option Addr} {xs : List Nd} (h : SlG Nd.cells 4 w B A xs) : NdSl w B A xs := fun hne => by
 obtain ⟨b, o, e, hb, hc⟩ := h hne
 exact ⟨b, o, e, hb, fun i x hx => ⟨hc i x hx 0 _ rfl, hc i x hx 1 _ rfl, hc i x hx 2 _ rfl, hc i x hx 3 _ rfl⟩⟩
section
variable {H : Type} {enc : TypeId × Value → H} {W : World}
theorem open_relN {α : Type} {en : α → List Value} {k : Nat} {R : α → DataW H → Prop} {t e : TypeId} (ht : Tryz.prog.underlying t = some (.slice e)) (ce : Tryz.prog.cellsOf e = k) (he : EncOk en k)
   (hel : ∀ n cs y, DataW.trod enc Tryz.prog W 0 (fun _ => true) true n e cs = some y → ∃ x, cs = en x ∧ R x y.1) {fuel : Nat} {cs : List Value} {y : DataW H × List MemPlace}
   (hf : DataW.trod enc Tryz.prog W 0 (fun _ => true) true fuel t cs = some y) :
   ∃ (A : Option Addr) (xs : List α) (c : Nat), cs = [.slice A xs.length c] ∧ xs.length ≤ c ∧ c ≤ 9223372036854775807 ∧ SlG en k W W.heap.size A xs ∧ (xs = [] ∨ ∃ sp ds, y.1 = .slice ds sp ∧ ds.length = xs.length ∧ ∀ x ∈ xs, ∃ d ∈ ds, R x d) := by
 rcases open_slice ht hf with ⟨hcs, _⟩ | ⟨a, len', cap', m, n, D, Pl, hcs, _, hl, hm, hmm, hx, hi⟩
 · exact ⟨none, [], 0, hcs, by simp, by omega, SlG.nil _ _ _, .inl rfl⟩
 · simp only [if_true] at hmm
   subst hmm
   have hel' : ∀ i, i < m → ∃ x : α, R x (D i) ∧ ∀ j u, (en x)[j]? = some u → W.cell? (a.add (i * k + j)) = some u := by
     intro i him
     obtain ⟨cs', hc, ht'⟩ := hi i him
     rw [ce] at hc
     obtain ⟨x, rfl, hd⟩ := hel _ _ _ ht'
     refine ⟨x, hd, fun j u hu => ?_⟩
     obtain ⟨_, _, hat⟩ := World.cells?_some hc
     have hj : j < k := by have := (List.getElem?_eq_some_iff.1 hu).1; rwa [he.len] at this
     have := hat j hj
     rw [add_add] at this
     rw [this, hu]
   have hxs : ∀ r, r ≤ m → ∃ xs : List α, xs.length = r ∧ (∀ x ∈ xs, ∃ d ∈ (List.range r).map D, R x d) ∧ ∀ i x, xs[i]? = some x → ∀ j u, (en x)[j]? = some u → W.cell? (a.add (i * k + j)) = some u := by
     intro r
     induction r with
     | zero => intro _; exact ⟨[], rfl, by simp, fun i x hx => by simp at hx⟩
     | succ r ih =>
       intro hk
       obtain ⟨xs, h1, h3, h4⟩ := ih (by omega)
       obtain ⟨x, hd, hc⟩ := hel' r (by omega)
       refine ⟨xs ++ [x], by simp [h1], fun z hz => ?_, fun i y hy => ?_⟩
       · rcases List.mem_append.1 hz with hz | hz
         · obtain ⟨d, hd1, hd2⟩ := h3 z hz
           exact ⟨d, by rw [List.range_succ, List.map_append]; exact List.mem_append_left _ hd1, hd2⟩
         · rw [List.mem_singleton] at hz; subst hz; exact ⟨D r, by rw [List.range_succ, List.map_append]; simp, hd⟩
       · rcases Nat.lt_or_ge i xs.length with hlt | hge
         · rw [List.getElem?_append_left hlt] at hy; exact h4 i y hy
         · have : i = xs.length := by
             have := (List.getElem?_eq_some_iff.1 hy).1
             simp at this; omega
           subst this
           simp at hy
           subst hy
           rw [h1]; exact hc
   obtain ⟨xs, h1, h3, h4⟩ := hxs len' hl
   subst h1
   refine ⟨some a, xs, m, hcs, hl, by unfold maxLen at hm; omega, fun hne => ?_, .inr ⟨_, _, by rw [hx], by simp, h3⟩⟩
   have h0 : 0 < xs.length := List.length_pos_iff.2 hne
   have hen : 0 < (en xs[0]).length := by rw [he.len]; exact he.pos
   have hc0 := h4 0 xs[0] (List.getElem?_eq_getElem h0) 0 _ (List.getElem?_eq_getElem hen)
   have hsp : a.spot = none := by
     cases hs : a.spot with
     | none => rfl
     | some q =>
       simp [World.cell?, Addr.add, hs] at hc0
       split at hc0 <;> simp at hc0
   obtain ⟨b, o, sp⟩ := a
   simp only at hsp
   subst hsp
   simp only [add_none] at h4 hc0
   refine ⟨b, o, rfl, World.block_lt_of_cell? W _ hc0, fun i x hx j u hu => ?_⟩
   rw [Nat.add_assoc]
   exact h4 i x hx j u hu
theorem open_rel {α : Type} {en : α → List Value} {k : Nat} {R : α → DataW H → Prop} {t e : TypeId} (ht : Tryz.prog.underlying t = some (.slice e)) (ce : Tryz.prog.cellsOf e = k) (he : EncOk en k)
   (hel : ∀ n cs y, DataW.trod enc Tryz.prog W 0 (fun _ => true) true n e cs = some y → ∃ x, cs = en x ∧ R x y.1) {fuel : Nat} {cs : List Value} {y : DataW H × List MemPlace}
   (hf : DataW.trod enc Tryz.prog W 0 (fun _ => true) true fuel t cs = some y) :
   ∃ (A : Option Addr) (xs : List α) (c : Nat), cs = [.slice A xs.length c] ∧ xs.length ≤ c ∧ c ≤ 9223372036854775807 ∧ SlG en k W W.heap.size A xs ∧ (xs = [] ∨ ∃ sp ds, y.1 = .slice ds sp ∧ ∀ x ∈ xs, ∃ d ∈ ds, R x d) := by
 obtain ⟨A, xs, c, h1, h2, h3, h4, h5⟩ := open_relN (R := R) ht ce he hel hf
 exact ⟨A, xs, c, h1, h2, h3, h4, h5.imp id fun ⟨sp, ds, h6, _, h7⟩ => ⟨sp, ds, h6, h7⟩⟩
theorem uid_trod {base : Nat} {spare : Nat → Bool} {held : Bool} {n : Nat} {cs : List Value} {y : DataW H × List MemPlace} (h : DataW.trod enc Tryz.prog W base spare held n 34 cs = some y) :
   ∃ u : Ud, cs = [.string u.ty, .string u.id] ∧ y.1 = udData u := by
 obtain ⟨xs, m, _, hy, hlen, hxl, hf⟩ := DataW.trod_struct Tryz.underlying34 h
 rw [cells_uid] at hlen
 match cs, hlen with
 | [c0, c1], _ =>
   match xs, hxl with
   | [y0, y1], _ =>
     have e0 : DataW.trod enc Tryz.prog W base spare held m 9 (([c0, c1].drop 0).take (Tryz.prog.cellsOf 9)) = some y0 := hf 0 _ rfl
     have e1 : DataW.trod enc Tryz.prog W base spare held m 9 (([c0, c1].drop 1).take (Tryz.prog.cellsOf 9)) = some y1 := hf 1 _ rfl
     simp only [cells_str, List.drop_zero, List.drop_succ_cons, List.take_succ_cons, List.take_zero] at e0 e1
     obtain ⟨a0, q0, r0, _⟩ := DataW.trod_string Tryz.underlying9 e0
     obtain ⟨a1, q1, r1, _⟩ := DataW.trod_string Tryz.underlying9 e1
     simp only [List.cons.injEq, and_true] at q0 q1
     subst q0 q1 r0 r1
     exact ⟨⟨a0, a1⟩, rfl, by rw [hy]; rfl⟩
theorem scope_trod {base : Nat} {spare : Nat → Bool} {held : Bool} {n : Nat} {cs : List Value} {y : DataW H × List MemPlace} (h : DataW.trod enc Tryz.prog W base spare held n 44 cs = some y) :
   ∃ s : Sc, cs = [.int .i64 s.op, .string s.ty, .string s.uid.ty, .string s.uid.id] ∧ y.1 = scData s := by
 obtain ⟨xs, m, _, hy, hlen, hxl, hf⟩ := DataW.trod_struct Tryz.underlying44 h
 rw [cells_scope] at hlen
 match cs, hlen with
 | [c0, c1, c2, c3], _ =>
   match xs, hxl with
   | [y0, y1, y2], _ =>
     have e0 : DataW.trod enc Tryz.prog W base spare held m 3 (([c0, c1, c2, c3].drop 0).take (Tryz.prog.cellsOf 3)) = some y0 := hf 0 _ rfl
     have e1 : DataW.trod enc Tryz.prog W base spare held m 9 (([c0, c1, c2, c3].drop 1).take (Tryz.prog.cellsOf 9)) = some y1 := hf 1 _ rfl
     have e2 : DataW.trod enc Tryz.prog W base spare held m 34 (([c0, c1, c2, c3].drop 2).take (Tryz.prog.cellsOf 34)) = some y2 := hf 2 _ rfl
     simp only [cells_str, cells_int, cells_uid, List.drop_zero, List.drop_succ_cons, List.take_succ_cons, List.take_zero] at e0 e1 e2
     obtain ⟨a0, q0, r0, _⟩ := DataW.trod_int Tryz.underlying3 e0
     obtain ⟨a1, q1, r1, _⟩ := DataW.trod_string Tryz.underlying9 e1
     obtain ⟨u, q2, r2⟩ := uid_trod e2
     simp only [List.cons.injEq, and_true] at q0 q1 q2
     obtain ⟨q2, q3⟩ := q2
     subst q0 q1 q2 q3 r0 r1
     exact ⟨⟨a0, a1, u⟩, rfl, by rw [hy]; show DataW.agg [_, _, y2.1] = _; rw [r2]; rfl⟩
theorem ud_weights {u : Ud} (h : ∀ n, n ∈ (udData u : DataW H).weights Tryz.prog 34 → n ≤ reachBytes) : UdOk u :=
 ⟨size_of_weight (h _ (by simp [udData, strD, DataW.weights, Tryz.underlying34, DataW.weightsEach])), size_of_weight (h _ (by simp [udData, strD, DataW.weights, Tryz.underlying34, DataW.weightsEach]))⟩
theorem sc_weights {s : Sc} (h : ∀ n, n ∈ (scData s : DataW H).weights Tryz.prog 44 → n ≤ reachBytes) : ScZ s :=
 ⟨size_of_weight (h _ (by simp [scData, strD, DataW.weights, Tryz.underlying44, DataW.weightsEach])), ud_weights (H := H) fun n hn => h n (by simp only [scData, DataW.weights, Tryz.underlying44]; exact DataW.weights_mem_each (j := 2) (ts := [3, 9, 34]) rfl rfl n hn)⟩
theorem nd_weights {e : List Nd} {sp : List (DataW H)} (h : ∀ n, n ∈ (DataW.slice (e.map ndData) sp : DataW H).weights Tryz.prog 22 → n ≤ reachBytes) : NdOk e := fun x hx => by
 have hw : ∀ n, n ∈ (ndData x : DataW H).weights Tryz.prog 37 → n ≤ reachBytes := fun n hn => h n (slice_weights Tryz.underlying22 (List.mem_map_of_mem hx) hn)
 exact ⟨size_of_weight (hw _ (by simp [ndData, DataW.weights, Tryz.underlying37, DataW.weightsEach])), size_of_weight (hw _ (by simp [ndData, DataW.weights, Tryz.underlying37, DataW.weightsEach]))⟩
end
end Go.Proofs.YtpheiojmcafolaaGreatDoor
namespace Go.Proofs.YtpheiojmcafolaaGreatDoor
open Go.RowKit
structure En where
 u : Ud
 up : List Ud
 at_ : List Nd
structure Rq where
 who : Ud
 act : Ud
 what : Ud
 ctx : List Nd
instance udDec : DecidableEq Ud := fun a b => decidable_of_iff (a.ty = b.ty ∧ a.id = b.id) (by cases a; cases b; simp)
instance ndDec : DecidableEq Nd := fun a b => decidable_of_iff (a.op = b.op ∧ a.n = b.n ∧ a.s = b.s ∧ a.t = b.t) (by cases a; cases b; simp)
def fnz (f : Nat → Int) : Nat → Int
 | 0 => 0
 | n + 1 => if fnz f n ≠ 0 then fnz f n else f n
theorem fnz_zero {f : Nat → Int} : ∀ {n : Nat}, (∀ i, i < n → f i = 0) → fnz f n = 0
 | 0, _ => rfl
 | n + 1, h => by rw [fnz, fnz_zero fun i hi => h i (by omega), if_neg (by simp)]; exact h n (by omega)
theorem fnz_at {f : Nat → Int} {k : Nat} (h0 : ∀ i, i < k → f i = 0) (hk : f k ≠ 0) : ∀ {n : Nat}, k < n → fnz f n = f k
 | n + 1, hn => by
   rw [fnz]
   rcases Nat.lt_or_ge k n with h | h
   · rw [fnz_at h0 hk h, if_pos hk]
   · have : k = n := by omega
     subst this
     rw [fnz_zero h0, if_neg (by simp)]
theorem fnz_all {f : Nat → Int} : ∀ {n : Nat}, fnz f n = 0 → ∀ i, i < n → f i = 0
 | n + 1, h, i, hi => by
   rw [fnz] at h
   by_cases h1 : fnz f n = 0
   · rw [if_neg (by simp [h1])] at h
     rcases Nat.lt_or_ge i n with h2 | h2
     · exact fnz_all h1 i h2
     · have : i = n := by omega
       rw [this]; exact h
   · rw [if_pos h1] at h; exact absurd h h1
def opH (v : List Nd) : Int := match v with | [] => 0 | x :: _ => x.op
def nH (v : List Nd) : Int := match v with | [] => 0 | x :: _ => x.n
def upAt (ups : List Ud) (i : Nat) : Int := match ups[i]? with
 | none => 0
 | some p => if udErr p ≠ 0 then udErr p else if p ∈ ups.take i then 6 else 0
def upsErr (ups : List Ud) : Int := fnz (upAt ups) ups.length
def entOne (e : En) : Int := if 6 < e.up.length then 4 else if upsErr e.up ≠ 0 then upsErr e.up else if valErr e.at_ ≠ 0 then valErr e.at_ else if opH e.at_ = 6 then 0 else 2
def entAt (es : List En) (i : Nat) : Int := match es[i]? with
 | none => 0
 | some e => if udErr e.u ≠ 0 then udErr e.u else if e.u ∈ (es.take i).map En.u then 6 else entOne e
def upOf (es : List En) (u : Ud) : List Ud := match es.find? (fun e => decide (e.u = u)) with
 | none => []
 | some e => e.up
def abv (es : List En) : Nat → Ud → List Ud → List Ud
 | 0, _, met => met
 | k + 1, u, met => (upOf es u).foldl (fun m p => if p ∈ m then m else abv es k p (m ++ [p])) met
def cycB (es : List En) : Bool := es.any fun e => decide (e.u ∈ abv es 100 e.u [])
def entErr (es : List En) : Int := if 16 < es.length then 4 else if fnz (entAt es) es.length ≠ 0 then fnz (entAt es) es.length else if cycB es = true then 7 else 0
def inB (es : List En) (a b : Ud) : Bool := decide (b ∈ abv es 100 a [a])
def rqErr (q : Rq) : Int := if udErr q.who ≠ 0 then udErr q.who else if udErr q.act ≠ 0 then udErr q.act else if udErr q.what ≠ 0 then udErr q.what else if valErr q.ctx ≠ 0 then valErr q.ctx else if opH q.ctx = 6 then 0 else 2
inductive Rs (α : Type) where
 | ok (v : α)
 | bad (k : Int)
def Rs.bind {α β : Type} (r : Rs α) (f : α → Rs β) : Rs β := match r with
 | .ok v => f v
 | .bad k => .bad k
def bN (b : Bool) : Nd := ⟨1, if b = true then 1 else 0, ⟨#[]⟩, ⟨#[]⟩⟩
def nN (n : Int) : Nd := ⟨2, n, ⟨#[]⟩, ⟨#[]⟩⟩
def eN (u : Ud) : Nd := ⟨4, 0, u.ty, u.id⟩
def udH (v : List Nd) : Ud := match v with | [] => ⟨⟨#[]⟩, ⟨#[]⟩⟩ | x :: _ => ⟨x.s, x.t⟩
def sH (v : List Nd) : ByteArray := match v with | [] => ⟨#[]⟩ | x :: _ => x.s
def mustV (r : Rs (List Nd)) (op : Int) : Rs (List Nd) := r.bind fun v => if opH v = op then .ok v else .bad 2
def inR (n : Int) : Bool := decide (-9223372036854775808 ≤ n) && decide (n ≤ 9223372036854775807)
def numR (op a b : Int) : Rs Int :=
 if op = 17 then (if inR (a + b) = true then .ok (a + b) else .bad 5)
 else if op = 18 then (if inR (a - b) = true then .ok (a - b) else .bad 5)
 else if op = 19 then (if inR (a * b) = true then .ok (a * b) else .bad 5)
 else .bad 1
def sgnsL : List UInt8 → List (Option UInt8)
 | [] => []
 | 42 :: r => none :: sgnsL r
 | 92 :: 42 :: r => some 42 :: sgnsL r
 | c :: r => some c :: sgnsL r
def likeL : List (Option UInt8) → List UInt8 → Bool
 | [], [] => true
 | [], _ :: _ => false
 | none :: p, [] => likeL p []
 | none :: p, c :: s => likeL p (c :: s) || likeL (none :: p) s
 | some _ :: _, [] => false
 | some b :: p, c :: s => b == c && likeL p s
 termination_by p s => p.length + s.length
def likeR (p s : List UInt8) : Rs Bool := if textErr p ≠ 0 then .bad (textErr p) else if textErr s ≠ 0 then .bad (textErr s) else .ok (likeL (sgnsL p) s)
def partsV (v : List Nd) : List (List Nd) := kidsGo v.tail.length v.tail
def partsR (v : List Nd) : Rs (List (List Nd)) := if valErr v ≠ 0 then .bad (valErr v) else if opH v = 5 then .ok (partsV v) else if opH v = 6 then .ok ((partsV v).map List.tail) else .bad 2
def getR (v : List Nd) (s : ByteArray) : Rs (List Nd) :=
 if valErr v ≠ 0 then .bad (valErr v) else if opH v = 6 then
   (match (partsV v).find? (fun p => decide (sH p = s)) with
     | some p => .ok p.tail
     | none => .bad 3)
 else .bad 2
def recGo : List (ByteArray × List Nd) → List (List UInt8) → Int
 | [], _ => 0
 | (s, v) :: r, met => if nameErr s.toList ≠ 0 then nameErr s.toList else if s.toList ∈ met then 6 else if valErr v ≠ 0 then valErr v else recGo r (met ++ [s.toList])
def recNodes (fs : List (ByteArray × List Nd)) : List Nd := ⟨6, fs.length, ⟨#[]⟩, ⟨#[]⟩⟩ :: (sortN (fs.map fun f => ⟨7, 0, f.1, ⟨#[]⟩⟩ :: f.2)).flatten
def recR (fs : List (ByteArray × List Nd)) : Rs (List Nd) := if recGo fs [] ≠ 0 then .bad (recGo fs []) else if 200 < (recNodes fs).length then .bad 4 else .ok (recNodes fs)
def setR (vs : List (List Nd)) : Rs (List Nd) := if (setOfP vs).2 ≠ 0 then .bad (setOfP vs).2 else .ok (setOfP vs).1
def bagHas (s v : List Nd) : Rs Bool := if valErr s ≠ 0 then .bad (valErr s) else if valErr v ≠ 0 then .bad (valErr v) else if opH s = 5 then .ok ((partsV s).any fun p => decide (p = v)) else .bad 2
def bagTwo (f : List (List Nd) → List (List Nd) → Bool) (s t : List Nd) : Rs Bool := if valErr s ≠ 0 then .bad (valErr s) else if valErr t ≠ 0 then .bad (valErr t) else if opH s = 5 ∧ opH t = 5 then .ok (f (partsV s) (partsV t)) else .bad 2
def bagAll (s t : List Nd) : Rs Bool := bagTwo (fun a b => b.all fun p => decide (p ∈ a)) s t
def bagAny (s t : List Nd) : Rs Bool := bagTwo (fun a b => b.any fun p => decide (p ∈ a)) s t
def eitherR (op : Int) (ra rb : Rs (List Nd)) : Rs (List Nd) := (mustV ra 1).bind fun a => if (nH a == 1) = (op == 12) then .ok a else mustV rb 1
def choiceR (rc ra rb : Rs (List Nd)) : Rs (List Nd) := (mustV rc 1).bind fun c => if nH c = 1 then ra else rb
def recOf (es : List En) (v : List Nd) : Rs (Option (List Nd)) :=
 if opH v = 6 then .ok (some v) else if opH v = 4 then .ok ((es.find? fun e => decide (e.u = udH v)).map En.at_) else .bad 2
def singleR (es : List En) (x : Nd) (v : List Nd) : Rs (List Nd) :=
 if x.op = 9 then (mustV (.ok v) 1).bind fun v => .ok [bN (nH v == 0)]
 else if x.op = 10 then (mustV (.ok v) 2).bind fun v => (numR 18 0 (nH v)).bind fun n => .ok [nN n]
 else if x.op = 23 then (mustV (.ok v) 3).bind fun v => (likeR x.s.toList (sH v).toList).bind fun b => .ok [bN b]
 else if x.op = 24 then (mustV (.ok v) 4).bind fun v => .ok [bN (decide (sH v = x.s))]
 else (recOf es v).bind fun r => match r with
   | none => if x.op = 21 then .ok [bN false] else .bad 8
   | some r => if x.op = 21 then (match getR r x.s with | .ok _ => .ok [bN true] | .bad _ => .ok [bN false]) else getR r x.s
def inR' (es : List En) (a b : List Nd) : Rs Bool :=
 (mustV (.ok a) 4).bind fun a => (if opH b = 5 then partsR b else .ok [b]).bind fun tops => if tops.all (fun t => opH t == 4) = true then .ok (tops.any fun t => inB es (udH a) (udH t)) else .bad 2
def doubleR (es : List En) (op : Int) (a b : List Nd) : Rs (List Nd) :=
 if op = 14 then .ok [bN (decide (a = b))]
 else if op = 20 then (inR' es a b).bind fun r => .ok [bN r]
 else if op = 25 then (bagHas a b).bind fun r => .ok [bN r]
 else if op = 26 then (bagAll a b).bind fun r => .ok [bN r]
 else if op = 27 then (bagAny a b).bind fun r => .ok [bN r]
 else (mustV (.ok a) 2).bind fun a => (mustV (.ok b) 2).bind fun b =>
   if op = 15 then .ok [bN (decide (nH a < nH b))] else if op = 16 then .ok [bN (decide (nH a ≤ nH b))] else (numR op (nH a) (nH b)).bind fun n => .ok [nN n]
def namedR (q : Rq) (s : List UInt8) : Rs (List Nd) :=
 if s = [112, 114, 105, 110, 99, 105, 112, 97, 108] then .ok [eN q.who] else if s = [97, 99, 116, 105, 111, 110] then .ok [eN q.act]
 else if s = [114, 101, 115, 111, 117, 114, 99, 101] then .ok [eN q.what] else if s = [99, 111, 110, 116, 101, 120, 116] then .ok q.ctx else .bad 3
def allR {α : Type} : List (Rs α) → Rs (List α)
 | [] => .ok []
 | r :: rs => r.bind fun v => (allR rs).bind fun vs => .ok (v :: vs)
def evE (es : List En) (q : Rq) : Nat → List Nd → Rs (List Nd)
 | 0, _ => .bad 0
 | _ + 1, [] => .bad 0
 | k + 1, x :: body =>
   if x.op = 1 ∨ x.op = 2 ∨ x.op = 3 ∨ x.op = 4 then .ok [x]
   else if x.op = 8 then namedR q x.s.toList
   else match x.op == 5, x.op == 6, kidsGo body.length body with
     | true, _, ps => (allR (ps.map (evE es q k))).bind setR
     | _, true, ps => (allR (ps.map fun p => evE es q k p.tail)).bind fun vs => recR ((ps.map sH).zip vs)
     | _, _, [a] => (evE es q k a).bind fun v => singleR es x v
     | _, _, [a, b] => if x.op = 11 ∨ x.op = 12 then eitherR x.op (evE es q k a) (evE es q k b) else (evE es q k a).bind fun u => (evE es q k b).bind fun v => doubleR es x.op u v
     | _, _, [c, a, b] => choiceR (evE es q k c) (evE es q k a) (evE es q k b)
     | _, _, _ => .bad 0
def valueR (es : List En) (q : Rq) (e : List Nd) : Rs (List Nd) :=
 if entErr es ≠ 0 then .bad (entErr es) else if rqErr q ≠ 0 then .bad (rqErr q) else if treeErr e ≠ 0 then .bad (treeErr e) else evE es q e.length e
end Go.Proofs.YtpheiojmcafolaaGreatDoor
namespace Go.Proofs.YtpheiojmcafolaaGreatDoor
set_option maxRecDepth 100000
open Go.RowKit Go.Sort Go.Maps
def udC (u : Ud) : List Value := [.string u.ty, .string u.id]
theorem udC_ok : EncOk udC 2 := ⟨fun _ => rfl, by omega, fun x u hu => by
 simp only [udC, List.mem_cons, List.not_mem_nil, or_false] at hu
 rcases hu with rfl | rfl <;> rfl⟩
abbrev UdSl := SlG udC 2
def udV (u : Ud) : Value := .agg #[.string u.ty, .string u.id]
theorem ud_deep : Tryz.prog.keyType 34 = true := by kernel_rfl
theorem ud_cells : Tryz.prog.cellsOf 34 = 2 := by kernel_rfl
theorem str_cells : Tryz.prog.cellsOf 9 = 1 := by kernel_rfl
theorem ud_wide : (match Tryz.prog.underlying 34 with | some (.array _ _) | some (.struct _) => true | _ => false) = true := by rw [Tryz.underlying34]
theorem ud_laid : laidOutB Tryz.prog = true := by kernel_rfl
theorem ud_size : 1 ≤ Tryz.prog.types.size := of_decide_eq_true (by kernel_rfl)
theorem ud_law : Maps.Keyed Tryz.prog 34 := Maps.Keyed.of_law (deep_law_gate ud_laid (of_decide_eq_true (by kernel_rfl)) (of_decide_eq_true (by kernel_rfl)) ud_deep ud_wide)
structure UdSm (u : Ud) : Prop where
 ty : u.ty.size ≤ maxLen
 id : u.id.size ≤ maxLen
theorem lits_str {P : Program} {d t : Nat} {s : ByteArray} (hu : P.underlying t = some .string) (hl : s.size ≤ maxLen) : P.keyLits (d + 1) t [.string s] = some [.string s.data.toList] := by
 simp [Program.keyLits, hu, hl]
theorem ud_keyed {c : Ud} (h : UdSm c) : ∃ l, keyOf Tryz.prog 34 (udV c) = some l := by
 obtain ⟨m, hm⟩ : ∃ m, Tryz.prog.types.size + 1 = m + 1 + 1 := ⟨Tryz.prog.types.size - 1, by have := ud_size; omega⟩
 have f : (udV c).formed Tryz.prog 34 = true := by simp [udV, Value.formed, Tryz.underlying34, ud_cells]
 have e1 := lits_str (P := Tryz.prog) (d := m) (t := 9) Tryz.underlying9 h.ty
 have e2 := lits_str (P := Tryz.prog) (d := m) (t := 9) Tryz.underlying9 h.id
 unfold keyOf
 rw [Tryz.underlying34]
 simp only [ud_deep, f, Bool.and_self, if_true, hm]
 unfold Program.keyLits
 rw [Tryz.underlying34]
 simp [ud_cells, str_cells, udV, Value.cells, e1, e2]
noncomputable def udK (c : Ud) : Lit := (keyOf Tryz.prog 34 (udV c)).getD (.bool true)
theorem udK_eq {c : Ud} (h : UdSm c) : keyOf Tryz.prog 34 (udV c) = some (udK c) := by
 obtain ⟨l, hl⟩ := ud_keyed h
 unfold udK; rw [hl]; rfl
theorem udK_inj {c d : Ud} (hc : UdSm c) (hd : UdSm d) (e : udK c = udK d) : c = d := by
 have h1 := udK_eq hc
 have h2 := udK_eq hd
 rw [← e] at h2
 have := ud_law.inj h1 h2
 cases c; cases d
 simp [udV] at this
 obtain ⟨rfl, rfl⟩ := this
 rfl
end Go.Proofs.YtpheiojmcafolaaGreatDoor
namespace Go.Proofs.YtpheiojmcafolaaGreatDoor
set_option maxRecDepth 100000
open Go.RowKit
structure Eh where
 u : Ud
 ua : Option Addr
 un : Nat
 uc : Nat
 aa : Option Addr
 an : Nat
 ac : Nat
def ehC (e : Eh) : List Value := [.string e.u.ty, .string e.u.id, .slice e.ua e.un e.uc, .slice e.aa e.an e.ac]
theorem ehC_ok : EncOk ehC 4 := ⟨fun _ => rfl, by omega, fun x u hu => by
 simp only [ehC, List.mem_cons, List.not_mem_nil, or_false] at hu
 rcases hu with rfl | rfl | rfl | rfl <;> rfl⟩
abbrev EhSl := SlG ehC 4
structure EhOk (w : World) (B : Nat) (h : Eh) (e : En) : Prop where
 u : h.u = e.u
 un : h.un = e.up.length
 uc : h.un ≤ h.uc ∧ h.uc ≤ 9223372036854775807
 up : UdSl w B h.ua e.up
 an : h.an = e.at_.length
 ac : h.an ≤ h.ac ∧ h.ac ≤ 9223372036854775807
 at_ : NdSl w B h.aa e.at_
theorem EhOk.below {w w' : World} {B : Nat} {h : Eh} {e : En} (k : EhOk w B h e) (hb : Below B w w') : EhOk w' B h e :=
 ⟨k.u, k.un, k.uc, k.up.below hb, k.an, k.ac, k.at_.below hb⟩
theorem EhOk.more {w : World} {B B' : Nat} {h : Eh} {e : En} (k : EhOk w B h e) (hb : B ≤ B') : EhOk w B' h e :=
 ⟨k.u, k.un, k.uc, k.up.more hb, k.an, k.ac, k.at_.more hb⟩
structure Ens (w : World) (B : Nat) (hs : List Eh) (es : List En) : Prop where
 len : hs.length = es.length
 at_ : ∀ (i : Nat) (h : Eh) (e : En), hs[i]? = some h → es[i]? = some e → EhOk w B h e
theorem Ens.below {w w' : World} {B : Nat} {hs : List Eh} {es : List En} (k : Ens w B hs es) (hb : Below B w w') : Ens w' B hs es :=
 ⟨k.len, fun i h e h1 h2 => (k.at_ i h e h1 h2).below hb⟩
theorem Ens.more {w : World} {B B' : Nat} {hs : List Eh} {es : List En} (k : Ens w B hs es) (hb : B ≤ B') : Ens w B' hs es :=
 ⟨k.len, fun i h e h1 h2 => (k.at_ i h e h1 h2).more hb⟩
end Go.Proofs.YtpheiojmcafolaaGreatDoor
namespace Go.Proofs.YtpheiojmcafolaaGreatDoor
def unm (es : List En) (met : List Ud) : Nat := ((es.flatMap En.up).filter fun p => decide (p ∉ met)).length
theorem filter_len_le {α : Type} (p q : α → Bool) : ∀ l : List α, (∀ x ∈ l, p x = true → q x = true) → (l.filter p).length ≤ (l.filter q).length
 | [], _ => by simp
 | x :: l, h => by
   have ih := filter_len_le p q l fun y hy => h y (by simp [hy])
   have hx := h x (by simp)
   cases hp : p x <;> cases hq : q x <;> simp [hp, hq]
   · exact ih
   · omega
   · rw [hp, hq] at hx; exact absurd (hx rfl) (by simp)
   · exact ih
theorem filter_len_lt {α : Type} (p q : α → Bool) : ∀ l : List α, (∀ x ∈ l, p x = true → q x = true) → ∀ x ∈ l, p x = false → q x = true → (l.filter p).length < (l.filter q).length
 | y :: l, h, x, hx, hp, hq => by
   have h' := fun z (hz : z ∈ l) => h z (by simp [hz])
   rcases List.mem_cons.1 hx with rfl | hx
   · have := filter_len_le p q l h'
     simp [hp, hq]; omega
   · have ih := filter_len_lt p q l h' x hx hp hq
     have hy := h y (by simp)
     cases hpy : p y <;> cases hqy : q y <;> simp [hpy, hqy]
     · exact ih
     · omega
     · rw [hpy, hqy] at hy; exact absurd (hy rfl) (by simp)
     · exact ih
theorem unm_le {es : List En} {m m' : List Ud} (h : ∀ x ∈ m, x ∈ m') : unm es m' ≤ unm es m :=
 filter_len_le _ _ _ fun x _ hx => by simp only [decide_eq_true_eq] at hx ⊢; exact fun hm => hx (h x hm)
theorem unm_lt {es : List En} {m : List Ud} {p : Ud} (hp : p ∈ es.flatMap En.up) (hm : p ∉ m) : unm es (m ++ [p]) < unm es m :=
 filter_len_lt _ _ _ (fun x _ hx => by simp only [decide_eq_true_eq, List.mem_append, not_or] at hx ⊢; exact hx.1) p hp (by simp) (by simpa using hm)
theorem upOf_mem {es : List En} {u p : Ud} (h : p ∈ upOf es u) : p ∈ es.flatMap En.up := by
 unfold upOf at h
 split at h
 · simp at h
 · rename_i e he
   exact List.mem_flatMap.2 ⟨e, List.mem_of_find?_eq_some he, h⟩
theorem unm_small {es : List En} (h16 : es.length ≤ 16) (h6 : ∀ e ∈ es, e.up.length ≤ 6) (m : List Ud) : unm es m ≤ 96 := by
 unfold unm
 refine Nat.le_trans (List.length_filter_le _ _) ?_
 have : ∀ l : List En, (∀ e ∈ l, e.up.length ≤ 6) → (l.flatMap En.up).length ≤ 6 * l.length := by
   intro l
   induction l with
   | nil => simp
   | cons e r ih =>
     intro h
     have h1 := h e (by simp)
     have h2 := ih fun x hx => h x (by simp [hx])
     rw [List.flatMap_cons, List.length_append, List.length_cons]; omega
 have := this es h6
 omega
def abvF (es : List En) (k : Nat) (m : List Ud) (ps : List Ud) : List Ud := ps.foldl (fun m p => if p ∈ m then m else abv es k p (m ++ [p])) m
theorem abv_succ (es : List En) (k : Nat) (u : Ud) (met : List Ud) : abv es (k + 1) u met = abvF es k met (upOf es u) := rfl
theorem abvF_snoc (es : List En) (k : Nat) (m ps : List Ud) (p : Ud) : abvF es k m (ps ++ [p]) = if p ∈ abvF es k m ps then abvF es k m ps else abv es k p (abvF es k m ps ++ [p]) := by
 unfold abvF
 rw [List.foldl_append]; rfl
theorem abv_more (es : List En) : ∀ (k : Nat) (u : Ud) (m : List Ud), ∀ x ∈ m, x ∈ abv es k u m
 | 0, _, _, x, hx => hx
 | k + 1, u, m, x, hx => by
   rw [abv_succ]
   have : ∀ (ps m : List Ud), x ∈ m → x ∈ abvF es k m ps := by
     intro ps
     induction ps with
     | nil => intro m h; exact h
     | cons p r ih =>
       intro m h
       show x ∈ abvF es k (if p ∈ m then m else abv es k p (m ++ [p])) r
       refine ih _ ?_
       split
       · exact h
       · exact abv_more es k p _ x (by simp [h])
   exact this _ _ hx
theorem abvF_more (es : List En) (k : Nat) : ∀ (ps m : List Ud), ∀ x ∈ m, x ∈ abvF es k m ps
 | [], m, x, h => h
 | p :: r, m, x, h => by
   show x ∈ abvF es k (if p ∈ m then m else abv es k p (m ++ [p])) r
   refine abvF_more es k r _ x ?_
   split
   · exact h
   · exact abv_more es k p _ x (by simp [h])
end Go.Proofs.YtpheiojmcafolaaGreatDoor
namespace Go.Proofs.YtpheiojmcafolaaGreatDoor
set_option maxRecDepth 100000
open Go.RowKit Go.Sort Go.Maps
theorem lits_str_inv {P : Program} {d t : Nat} {v : Value} {ls : List Lit} (hu : P.underlying t = some .string) (h : P.keyLits (d + 1) t [v] = some ls) : ∃ s, v = .string s ∧ s.size ≤ maxLen := by
 unfold Program.keyLits at h
 rw [hu] at h
 cases v <;> simp at h
 exact ⟨_, rfl, h.1⟩
theorem udV_inv {v : Value} {l : Lit} (h : keyOf Tryz.prog 34 v = some l) : ∃ u, v = udV u ∧ UdSm u ∧ l = udK u := by
 suffices hs : ∃ u, v = udV u ∧ UdSm u by
   obtain ⟨u, rfl, hu⟩ := hs
   refine ⟨u, rfl, hu, ?_⟩
   have := udK_eq hu
   rw [this] at h
   injection h with h
   exact h.symm
 obtain ⟨m, hm⟩ : ∃ m, Tryz.prog.types.size + 1 = m + 1 + 1 := ⟨Tryz.prog.types.size - 1, by have := ud_size; omega⟩
 unfold keyOf at h
 rw [Tryz.underlying34] at h
 simp only [ud_deep, Bool.true_and, hm] at h
 split at h
 · rename_i hf
   cases v with
   | agg cs =>
     have hc : cs.size = 2 := by
       have := hf
       unfold Value.formed at this
       rw [Tryz.underlying34] at this
       simpa [ud_cells] using this
     obtain ⟨c0, c1, rfl⟩ : ∃ c0 c1, cs = #[c0, c1] := by
       obtain ⟨l⟩ := cs
       match l, hc with
       | [c0, c1], _ => exact ⟨c0, c1, rfl⟩
     simp only [Option.map_eq_some_iff] at h
     obtain ⟨ls, h, -⟩ := h
     unfold Program.keyLits at h
     rw [Tryz.underlying34] at h
     simp [ud_cells, str_cells, Value.cells] at h
     cases e0 : Tryz.prog.keyLits (m + 1) 9 [c0] with
     | none => simp [e0] at h
     | some l0 =>
       cases e1 : Tryz.prog.keyLits (m + 1) 9 [c1] with
       | none => simp [e0, e1] at h
       | some l1 =>
         obtain ⟨a, rfl, ha⟩ := lits_str_inv Tryz.underlying9 e0
         obtain ⟨b, rfl, hb⟩ := lits_str_inv Tryz.underlying9 e1
         exact ⟨⟨a, b⟩, rfl, ha, hb⟩
   | _ => simp [Value.formed, Tryz.underlying34] at hf
 · cases h
def MetOk (met : List Ud) (D : DataW Unit) : Prop := ∀ u, UdSm u → Maps.has D (udK u) = decide (u ∈ met) ∧ (u ∈ met → ∀ z, D.atKey (udK u) z = .lit (.int .i64 1))
theorem metOk_nil : MetOk [] (.map [] : DataW Unit) := fun u _ => ⟨by simp [Maps.has], fun h => by simp at h⟩
theorem metOk_put {met : List Ud} {D : DataW Unit} (h : MetOk met D) (hD : Maps.IsMap D) {u : Ud} (hu : UdSm u) : MetOk (met ++ [u]) (D.put (udK u) (.lit (.int .i64 1))) := by
 intro d hd
 by_cases e : d = u
 · subst e
   rw [has_put_same hD (ud_law.key (udK_eq hd))]
   exact ⟨by simp, fun _ z => atKey_put_same hD (ud_law.key (udK_eq hd)) _ _⟩
 · have hk : udK d ≠ udK u := fun hh => e (udK_inj hd hu hh)
   rw [has_put_other hk]
   refine ⟨by rw [(h d hd).1]; simp [e], fun hm z => ?_⟩
   rcases List.mem_append.1 hm with h' | h'
   · rw [atKey_put_other hk, (h d hd).2 h' z]
   · simp at h'; exact absurd h' e
def MetAt (w : World) (mb : Nat) (met : List Ud) : Prop := ∃ D, w.ownsMap Tryz.prog 34 (plainElem (H := Unit) Tryz.prog 3) mb met.length D ∧ MetOk met D
theorem MetAt.kept {w w' : World} {mb : Nat} {met : List Ud} (h : MetAt w mb met) {row : Option Nat} (hg : w.grownBy w' row) (hne : some mb ≠ row) : MetAt w' mb met := by
 obtain ⟨D, h1, h2⟩ := h
 exact ⟨D, h1.kept hg hne, h2⟩
theorem MetAt.drewN {w : World} {mb : Nat} {met : List Ud} (h : MetAt w mb met) (n : Nat) : MetAt (w.drewN n) mb met := h.kept (row := none) ⟨rfl, rfl, rfl, Nat.le_refl _, fun _ _ _ => rfl⟩ (by simp)
theorem MetAt.lt {w : World} {mb : Nat} {met : List Ud} (h : MetAt w mb met) : mb < w.heap.size := by
 obtain ⟨D, h1, _⟩ := h
 exact h1.lt
theorem int_zero' (w : World) : (zeroValue 3).run Tryz.prog w = .ok (.int .i64 0) w := by kernel_rfl
theorem met_look {w : World} {mb : Nat} {met : List Ud} (h : MetAt w mb met) {u : Ud} (hu : UdSm u) :
   (Instr.lookup 118 (.map (some mb)) (.agg #[.string u.ty, .string u.id]) false).run Tryz.prog w = .ok (.int .i64 (if u ∈ met then 1 else 0)) w := by
 obtain ⟨D, h1, h2⟩ := h
 obtain ⟨c, hr, hat, _⟩ := h1.lookup_int ud_law Tryz.underlying118 Tryz.underlying3 (int_zero' w) (udK_eq hu)
 show (Instr.lookup 118 (.map (some mb)) (udV u) false).run Tryz.prog w = _
 rw [hr]
 by_cases hm : u ∈ met
 · rw [(h2 u hu).2 hm] at hat
   injection hat with e; injection e with _ e
   rw [if_pos hm, ← e]
 · rw [atKey_of_not_has (by rw [(h2 u hu).1]; simpa using hm)] at hat
   injection hat with e; injection e with _ e
   rw [if_neg hm, ← e]
theorem met_put {w : World} {mb : Nat} {met : List Ud} (h : MetAt w mb met) {u : Ud} (hu : UdSm u) (hl : met.length ≤ 1000) :
   ∃ w', (Instr.mapUpdate 118 (.map (some mb)) (.agg #[.string u.ty, .string u.id]) (.int .i64 1)).run Tryz.prog w = .ok () w' ∧ MetAt w' mb (met ++ [u]) ∧ w.grownBy w' (some mb) := by
 obtain ⟨D, h1, h2⟩ := h
 have hv : plainElem (H := Unit) Tryz.prog 3 (.int .i64 1) = some (.lit (.int .i64 1), []) := plainElem_int Tryz.underlying3 (by decide)
 obtain ⟨w', hr, h3, h4⟩ := h1.update ud_law Tryz.underlying118 (by unfold maxLen; omega) (udK_eq hu) hv
 refine ⟨w', hr, ⟨_, ?_, metOk_put h2 h1.isMap hu⟩, h4⟩
 rw [List.length_append]
 exact h3
def ehR (v : Value) : Option (DataW Eh × List MemPlace) := match v with
 | .agg cs => match cs.toList with
   | [.string a, .string b, .slice ua un uc, .slice aa an ac] => some (.held ⟨⟨a, b⟩, ua, un, uc, aa, an, ac⟩, [])
   | _ => none
 | _ => none
def ehW (e : Eh) : Value := .agg #[.string e.u.ty, .string e.u.id, .slice e.ua e.un e.uc, .slice e.aa e.an e.ac]
theorem ehR_mk (e : Eh) : ehR (ehW e) = some (.held e, []) := rfl
theorem ehR_inv {v : Value} {z : DataW Eh × List MemPlace} (h : ehR v = some z) : ∃ e, v = ehW e ∧ z = (.held e, []) := by
 unfold ehR at h
 split at h
 · rename_i cs
   split at h
   · rename_i hcs
     injection h with h
     refine ⟨_, ?_, h.symm⟩
     obtain ⟨l⟩ := cs
     simp only at hcs
     subst hcs
     rfl
   · cases h
 · cases h
def StoOk (hs : List Eh) (D : DataW Eh) : Prop := ∀ u, UdSm u → Maps.has D (udK u) = decide (u ∈ hs.map Eh.u) ∧ ∀ h, hs.find? (fun e => decide (e.u = u)) = some h → ∀ z, D.atKey (udK u) z = .held h
theorem stoOk_nil : StoOk [] (.map [] : DataW Eh) := fun u _ => ⟨by simp [Maps.has], fun h hh => by simp at hh⟩
theorem stoOk_put {hs : List Eh} {D : DataW Eh} (h : StoOk hs D) (hD : Maps.IsMap D) {e : Eh} (hu : UdSm e.u) (hn : e.u ∉ hs.map Eh.u) : StoOk (hs ++ [e]) (D.put (udK e.u) (.held e)) := by
 intro d hd
 rw [List.map_append, List.find?_append]
 by_cases ee : d = e.u
 · subst ee
   rw [has_put_same hD (ud_law.key (udK_eq hd))]
   refine ⟨by simp, fun x hx z => ?_⟩
   have h0 : hs.find? (fun x => decide (x.u = e.u)) = none := by
     rw [List.find?_eq_none]
     intro y hy
     have : e.u ∉ hs.map Eh.u := hn
     simp only [decide_eq_true_eq]
     intro hh
     exact this (List.mem_map.2 ⟨y, hy, hh⟩)
   rw [h0] at hx
   simp at hx
   subst hx
   exact atKey_put_same hD (ud_law.key (udK_eq hd)) _ _
 · have hk : udK d ≠ udK e.u := fun hh => ee (udK_inj hd hu hh)
   rw [has_put_other hk]
   refine ⟨by rw [(h d hd).1]; simp [ee], fun x hx z => ?_⟩
   have hx' : hs.find? (fun x => decide (x.u = d)) = some x := by
     cases hf : hs.find? (fun x => decide (x.u = d)) with
     | some y => rw [hf] at hx; simpa using hx
     | none =>
       rw [hf] at hx
       have : ¬ e.u = d := fun hh => ee hh.symm
       simp [this] at hx
   rw [atKey_put_other hk, (h d hd).2 x hx' z]
def StoAt (w : World) (sb : Nat) (hs : List Eh) : Prop := ∃ D, w.ownsMap Tryz.prog 34 ehR sb hs.length D ∧ StoOk hs D
theorem StoAt.kept {w w' : World} {sb : Nat} {hs : List Eh} (h : StoAt w sb hs) {row : Option Nat} (hg : w.grownBy w' row) (hne : some sb ≠ row) : StoAt w' sb hs := by
 obtain ⟨D, h1, h2⟩ := h
 exact ⟨D, h1.kept hg hne, h2⟩
theorem StoAt.drewN {w : World} {sb : Nat} {hs : List Eh} (h : StoAt w sb hs) (n : Nat) : StoAt (w.drewN n) sb hs := h.kept (row := none) ⟨rfl, rfl, rfl, Nat.le_refl _, fun _ _ _ => rfl⟩ (by simp)
theorem StoAt.lt {w : World} {sb : Nat} {hs : List Eh} (h : StoAt w sb hs) : sb < w.heap.size := by
 obtain ⟨D, h1, _⟩ := h
 exact h1.lt
def eh0 : Eh := ⟨⟨⟨#[]⟩, ⟨#[]⟩⟩, none, 0, 0, none, 0, 0⟩
theorem ent_zero (w : World) : (zeroValue 109).run Tryz.prog w = .ok (ehW eh0) w := by kernel_rfl
def atU (hs : List Eh) (u : Ud) : Eh := (hs.find? (fun e => decide (e.u = u))).getD eh0
theorem sto_look {w : World} {sb : Nat} {hs : List Eh} (h : StoAt w sb hs) {u : Ud} (hu : UdSm u) :
   (Instr.lookup 116 (.map (some sb)) (.agg #[.string u.ty, .string u.id]) false).run Tryz.prog w = .ok (ehW (atU hs u)) w := by
 obtain ⟨D, h1, h2⟩ := h
 obtain ⟨v, ps, hr, hv⟩ := h1.lookup ud_law Tryz.underlying116 (ent_zero w) (ehR_mk eh0) (udK_eq hu)
 show (Instr.lookup 116 (.map (some sb)) (udV u) false).run Tryz.prog w = _
 obtain ⟨e, rfl, he⟩ := ehR_inv hv
 rw [hr]
 simp only [Prod.mk.injEq] at he
 unfold atU
 cases hf : hs.find? (fun e => decide (e.u = u)) with
 | some x =>
   rw [(h2 u hu).2 x hf] at he
   have := he.1
   injection this with this
   rw [this]; rfl
 | none =>
   have hn : u ∉ hs.map Eh.u := by
     intro hh
     obtain ⟨y, hy, e⟩ := List.mem_map.1 hh
     have := List.find?_eq_none.1 hf y hy
     simp [e] at this
   rw [atKey_of_not_has (by rw [(h2 u hu).1]; simpa using hn)] at he
   have := he.1
   injection this with this
   rw [← this]; rfl
theorem sto_put {w : World} {sb : Nat} {hs : List Eh} (h : StoAt w sb hs) {e : Eh} (hu : UdSm e.u) (hn : e.u ∉ hs.map Eh.u) (hl : hs.length ≤ 1000) :
   ∃ w', (Instr.mapUpdate 116 (.map (some sb)) (.agg #[.string e.u.ty, .string e.u.id]) (ehW e)).run Tryz.prog w = .ok () w' ∧ StoAt w' sb (hs ++ [e]) ∧ w.grownBy w' (some sb) := by
 obtain ⟨D, h1, h2⟩ := h
 obtain ⟨w', hr, h3, h4⟩ := h1.update ud_law Tryz.underlying116 (by unfold maxLen; omega) (udK_eq hu) (ehR_mk e)
 refine ⟨w', hr, ⟨_, ?_, stoOk_put h2 h1.isMap hu hn⟩, h4⟩
 rw [List.length_append]
 exact h3
theorem sto_made (w : World) : StoAt (w.alloc (.map #[] 0)) w.heap.size [] := ⟨_, World.ownsMap_made _ _ _ _, stoOk_nil⟩
theorem met_made (w : World) : MetAt (w.alloc (.map #[] 0)) w.heap.size [] := ⟨_, World.ownsMap_made _ _ _ _, metOk_nil⟩
theorem abv_cnt (es : List En) : ∀ (k : Nat) (u : Ud) (m : List Ud), (abv es k u m).length + unm es (abv es k u m) ≤ m.length + unm es m
 | 0, _, _ => Nat.le_refl _
 | k + 1, u, m => by
   rw [abv_succ]
   have key : ∀ ps : List Ud, (∀ p ∈ ps, p ∈ es.flatMap En.up) → ∀ m : List Ud, (abvF es k m ps).length + unm es (abvF es k m ps) ≤ m.length + unm es m := by
     intro ps
     induction ps with
     | nil => intro _ m; exact Nat.le_refl _
     | cons p ps ih =>
       intro hp m
       have h1 := ih (fun q hq => hp q (by simp [hq])) (if p ∈ m then m else abv es k p (m ++ [p]))
       refine Nat.le_trans (by exact h1) ?_
       split
       · exact Nat.le_refl _
       · rename_i hm
         have h2 := abv_cnt es k p (m ++ [p])
         have h3 := unm_lt (hp p (by simp)) hm
         simp at h2
         omega
   exact key _ (fun p hp => upOf_mem hp) m
theorem Ens.tail {w : World} {B : Nat} {h : Eh} {hs : List Eh} {e : En} {es : List En} (k : Ens w B (h :: hs) (e :: es)) : Ens w B hs es :=
 ⟨by have := k.len; simpa using this, fun i x y hx hy => k.at_ (i + 1) x y (by simpa using hx) (by simpa using hy)⟩
theorem ens_up {w : World} {B : Nat} : ∀ {hs : List Eh} {es : List En}, Ens w B hs es → ∀ u, (atU hs u).un = (upOf es u).length ∧ UdSl w B (atU hs u).ua (upOf es u) ∧ (atU hs u).un ≤ (atU hs u).uc ∧ (atU hs u).uc ≤ 9223372036854775807
 | [], [], _, u => ⟨rfl, SlG.nil _ _ _, Nat.le_refl _, by simp [atU, eh0]⟩
 | [], _ :: _, h, _ => by have := h.len; simp at this
 | _ :: _, [], h, _ => by have := h.len; simp at this
 | x :: hs, e :: es, h, u => by
   have h0 := h.at_ 0 x e rfl rfl
   have ih := ens_up h.tail u
   by_cases hu : e.u = u
   · have e1 : atU (x :: hs) u = x := by simp [atU, h0.u, hu]
     have e2 : upOf (e :: es) u = e.up := by simp [upOf, hu]
     rw [e1, e2]
     exact ⟨h0.un, h0.up, h0.uc.1, h0.uc.2⟩
   · have e1 : atU (x :: hs) u = atU hs u := by simp [atU, h0.u, hu]
     have e2 : upOf (e :: es) u = upOf es u := by simp [upOf, hu]
     rw [e1, e2]
     exact ih
end Go.Proofs.YtpheiojmcafolaaGreatDoor
