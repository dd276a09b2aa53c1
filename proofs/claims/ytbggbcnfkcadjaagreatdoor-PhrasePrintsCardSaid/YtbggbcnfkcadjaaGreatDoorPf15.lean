/-
  THE WALKS: tree.behind.
  THE WALKS: tree.Check, Skip, End.
  THE WALKS: phrase.Print.
  ARGUMENTS that are lists of nodes, opened, with numbers that stay in 64 bits; the table of the powers of ten.
  PLAIN LAWS: the words of an expression can be spelt.
  THE WALKS: (*parser).chain.
  THE WALKS: (*parser).number, named, atom.
  THE WALKS: (*parser).post.
  THE WALKS: (*parser).rec.
  THE WALKS: strings.NewReplacer. THE WALKS: (*strings.Replacer).build. THE WALKS: (*strings.Replacer).buildOnce. THE WALKS: (*strings.byteStringReplacer).Replace. THE WALKS: sync.Once, one goroutine. THE WALKS: (*strings.Replacer).Replace of a fresh replacer; name.Quote.
  PLAIN LAWS: from the left.
  THE WALKS of the reference: words: run, begins.
  THE WALKS of the reference: words: quoted.
  PLAIN LAWS: a number's leading zeros; the greatest sign that a text begins with.
  THE WALKS of the reference: words: Word.
  THE WALKS of the reference: words: Word, the other cases.
  THE WALKS of the reference: words: Word, signs; all cases.
  THE WALKS of the reference: words: Words; the laws' comparison of tokens.
  PLAIN LAWS: what is spelt is read again; what is read can be spelt.
  THE WALKS: the law's own small functions: bare, quick, num.
-/
import Derived.Test.YtbggbcnfkcadjaaGreatDoorPf14
import Derived.Test.YtbggbcnfkcadjaaGreatDoorPf01
import Derived.Test.YtbggbcnfkcadjaaGreatDoorPf13
import Derived.Test.YtbggbcnfkcadjaaGreatDoorPf03
import Derived.Test.YtbggbcnfkcadjaaGreatDoorPf05
import Derived.Test.YtbggbcnfkcadjaaGreatDoorPf06
import Derived.Maps.OwnSet
import Derived.StringKeys
import Derived.Maps.Views
import Derived.Deep.LoopGhost
import Derived.Test.YtbggbcnfkcadjaaGreatDoorPf02
import Derived.LoopN
import Derived.WalkSpells
import Derived.Laws.IdiomStrings
import Derived.Deep.WholeRow
import Derived.Deep.DeepCutAuto
import Derived.Deep.QuietTactic
import Derived.BigQuiet
import Derived.Laws.CopyOwn
import Derived.Deep.RegionHeld3
import Derived.IntWalk
import Derived.Conc.MuLone
import Derived.Conc.MuData
import Derived.RegionCalls
import Derived.Defers
import Derived.Laws.LoneSync
import Derived.Recover
import Derived.Test.YtbggbcnfkcadjaaGreatDoorPf08
import Derived.Laws.StructEq
import Derived.Test.YtbggbcnfkcadjaaGreatDoorPf07
namespace Go.Proofs.YtbggbcnfkcadjaaGreatDoor
open Go.RowKit
def BehOk (e : List Nd) (f i : Nat) : Prop := ∀ (w : World) (A : Option Addr) (c : Nat) (fld : Bool), 2 * (e.length - i) ≤ f → e.length ≤ c → c ≤ 9223372036854775807 → i ≤ 9223372036854775807 → NdOk e → NdSl w w.heap.size A e →
 Calls Tryz.prog 38 #[.slice A e.length c, .int .i64 i, .bool fld] w fun r w' => r = .returned (.int .i64 (bVal (bGo e f (.one fld) i))) ∧ Below w.heap.size w w'
set_option maxRecDepth 100000 in
set_option maxHeartbeats 4000000 in
theorem beh_out (e : List Nd) (f i : Nat) (h : e.length ≤ i) : BehOk e f i := by
 intro w A c fld hf hc hcm him hok hsl
 have HV : Hid (bGo e f (.one fld) i = none) := by
   show _ = _
   cases f <;> simp [bGo, List.getElem?_eq_none h]
 go_enter Tryz.func38, Tryz.ntmps38
 go_wp2_with fail
 go_ret
 exact ⟨ret_int (by rw [HV.out]; rfl), Below.refl _ _⟩
set_option maxRecDepth 100000 in
set_option maxHeartbeats 4000000 in
theorem beh_bad (e : List Nd) (f i : Nat) (x : Nd) (hx : e[i]? = some x) (hsh : shapedT x = false) : BehOk e (f + 1) i := by
 intro w A c fld hf hc hcm him hok hsl
 have hil : i < e.length := (List.getElem?_eq_some_iff.1 hx).1
 obtain ⟨b, o, rfl, hb, hcs⟩ := hsl.at_ hil
 obtain ⟨d0, d1, d2, d3⟩ := hcs i x hx
 obtain ⟨hxs, hxt⟩ := hok x (List.mem_of_getElem? hx)
 have HV : Hid (bGo e (f + 1) (.one fld) i = none) := by show _ = _; simp [bGo, hx, hsh]
 clear hcs hok hsl hx
 go_enter Tryz.func38, Tryz.ntmps38
 go_wp2_with (go_at_call 79; refine (tree_shaped x.op x.n x.s x.t _ hxs hxt).mono ?_; rintro r w1 ⟨rfl, hb1⟩)
 go_ret
 exact ⟨ret_int (by rw [HV.out]; rfl), hb1⟩
set_option maxRecDepth 100000 in
set_option maxHeartbeats 4000000 in
theorem beh_no (e : List Nd) (f i : Nat) (x : Nd) (hx : e[i]? = some x) (hsh : shapedT x = true) (w : World) (A : Option Addr) (c : Nat) (fld : Bool) (hfld : (x.op == 7) ≠ fld)
   (_hf : 2 * (e.length - i) ≤ f + 1) (_hc : e.length ≤ c) (_hcm : c ≤ 9223372036854775807) (_him : i ≤ 9223372036854775807) (hok : NdOk e) (hsl : NdSl w w.heap.size A e) :
   Calls Tryz.prog 38 #[.slice A e.length c, .int .i64 i, .bool fld] w fun r w' => r = .returned (.int .i64 (bVal (bGo e (f + 1) (.one fld) i))) ∧ Below w.heap.size w w' := by
 have hil : i < e.length := (List.getElem?_eq_some_iff.1 hx).1
 obtain ⟨b, o, rfl, hb, hcs⟩ := hsl.at_ hil
 obtain ⟨d0, d1, d2, d3⟩ := hcs i x hx
 obtain ⟨hxs, hxt⟩ := hok x (List.mem_of_getElem? hx)
 have HV : Hid (bGo e (f + 1) (.one fld) i = none) := by show _ = _; simp [bGo, hx, hsh, hfld]
 clear hcs hok hsl hx
 cases fld with
 | false =>
   have p7 : (x.op == 7) = true := by simpa using hfld
   clear hfld
   go_enter Tryz.func38, Tryz.ntmps38
   go_wp2_with (go_at_call 79; refine (tree_shaped x.op x.n x.s x.t _ hxs hxt).mono ?_; rintro r w1 ⟨rfl, hb1⟩; obtain ⟨hcc, hff⟩ := bcell hb1)
   go_ret
   exact ⟨ret_int (by rw [HV.out]; rfl), hb1⟩
 | true =>
   have p7 : (x.op == 7) = false := by simpa using hfld
   clear hfld
   go_enter Tryz.func38, Tryz.ntmps38
   go_wp2_with (go_at_call 79; refine (tree_shaped x.op x.n x.s x.t _ hxs hxt).mono ?_; rintro r w1 ⟨rfl, hb1⟩; obtain ⟨hcc, hff⟩ := bcell hb1)
   go_ret
   exact ⟨ret_int (by rw [HV.out]; rfl), hb1⟩
set_option maxRecDepth 100000 in
set_option maxHeartbeats 4000000 in
theorem beh_yes (e : List Nd) (f i : Nat) (x : Nd) (hx : e[i]? = some x) (hsh : shapedT x = true) (ih : ∀ f', f' ≤ f → ∀ i', BehOk e f' i') (w : World) (A : Option Addr) (c : Nat) (fld : Bool) (hfld : (x.op == 7) = fld)
   (hf : 2 * (e.length - i) ≤ f + 1) (hc : e.length ≤ c) (hcm : c ≤ 9223372036854775807) (him : i ≤ 9223372036854775807) (hok : NdOk e) (hsl : NdSl w w.heap.size A e) :
   Calls Tryz.prog 38 #[.slice A e.length c, .int .i64 i, .bool fld] w fun r w' => r = .returned (.int .i64 (bVal (bGo e (f + 1) (.one fld) i))) ∧ Below w.heap.size w w' := by
 have hil : i < e.length := (List.getElem?_eq_some_iff.1 hx).1
 obtain ⟨b, o, rfl, hb, hcs⟩ := hsl.at_ hil
 obtain ⟨d0, d1, d2, d3⟩ := hcs i x hx
 obtain ⟨hxs, hxt⟩ := hok x (List.mem_of_getElem? hx)
 have HV : Hid (bGo e (f + 1) (.one fld) i = bGo e f (.more (ndParts x).toNat (x.op == 6) ⟨#[]⟩) (i + 1)) := by show _ = _; simp [bGo, hx, hsh, hfld]
 have HS := Lib.hid hsl
 have HOK := Lib.hid hok
 have HI := Lib.hid ih
 have hdl : decide (e.length ≤ i) = false := by simp; omega
 have hdi : decide ((i : Int) < 0) = false := by simp
 obtain ⟨P, hP⟩ := Int.eq_ofNat_of_zero_le (shapedT_parts x hsh)
 have htp : ∀ W, Calls Tryz.prog 80 #[.agg #[.int .i64 x.op, .int .i64 x.n, .string x.s, .string x.t]] W fun e w' => e = .returned (.int .i64 (P : Int)) ∧ Below W.heap.size W w' := fun W => by
   rw [← hP]; exact tree_parts x.op x.n x.s x.t W
 have HTP := Lib.hid htp
 have HPP : Hid ((ndParts x).toNat = P) := by show _ = _; rw [hP]; rfl
 clear hcs hok hsl hx ih htp hP
 subst hfld
 go_enter Tryz.func38, Tryz.ntmps38
 go_wp2_with (first
   | (go_at_call 79; refine (tree_shaped x.op x.n x.s x.t _ hxs hxt).mono ?_; rintro r w1 ⟨rfl, hb1⟩; obtain ⟨hcc, hff⟩ := bcell hb1)
   | (go_at_call 80; refine (HTP.out _).mono ?_; rintro r w2 ⟨rfl, hb2⟩))
 have hz1 := hb1.size
 have hz2 : w1.heap.size + 1 ≤ w2.heap.size := by have := hb2.size; simpa using this
 have hw2 : Below w.heap.size w w2 := (hb1.alloc hb1.size _).trans (hb2.mono (by simp; omega))
 have hn2 : w2.cell? ⟨w1.heap.size, 0, none⟩ = some (.int .i64 x.op) := by rw [hb2.cell (p := ⟨w1.heap.size, 0, none⟩) (by simp)]; simp [go_sem]
 have HN2 := Lib.hid hn2
 clear hn2 hcc hff
 go_loopw [1, 8, 43] (fun at_ last kk wr => ∃ (k c2 fk a : Nat) (l : ByteArray), at_ = .int .i64 a ∧ kk = .int .i64 k ∧ last = .string l ∧ k + c2 = P ∧ i + 1 ≤ a ∧ a ≤ e.length ∧ k ≤ a ∧ fk ≤ f ∧ 2 * (e.length - a) + 1 ≤ fk ∧
     Hid (bGo e f (.more P (x.op == 6) ⟨#[]⟩) (i + 1) = bGo e fk (.more c2 (x.op == 6) l) a) ∧ Below w2.heap.size w2 wr)
   (fun _ _ kk _ => P - (intOf kk).toNat)
 case atStart => exact ⟨0, P, f, i + 1, ⟨#[]⟩, by go_num, rfl, rfl, by omega, by omega, by omega, by omega, by omega, by omega, rfl, Below.refl _ _⟩
 case round =>
   obtain ⟨k, c2, fk, a, l, rfl, rfl, rfl, hkc, hia, hal, hka, hff2, hfk, HK, hbr⟩ := hrel
   have hzr := hbr.size
   have hnr : wr.cell? ⟨w1.heap.size, 0, none⟩ = some (.int .i64 x.op) := (hbr.cell (p := ⟨w1.heap.size, 0, none⟩) (by simp; omega)).trans HN2.out
   have hwr : Below w.heap.size w wr := hw2.trans (hbr.mono (by omega))
   by_cases hkP : k < P
   · obtain ⟨c3, rfl⟩ : ∃ c3, c2 = c3 + 1 := ⟨c2 - 1, by omega⟩
     obtain ⟨fk2, rfl⟩ : ∃ fk2, fk = fk2 + 1 := ⟨fk - 1, by omega⟩
     by_cases hae : e.length ≤ a
     · have HVN : Hid (bGo e (f + 1) (.one (x.op == 7)) i = none) := by
         show _ = _
         rw [HV.out, HPP.out, HK.out]; simp [bGo, List.getElem?_eq_none hae]
       go_wp2_with fail
       go_ret
       exact ⟨ret_int (by rw [HVN.out]; rfl), hwr⟩
     · have hal2 : a < e.length := by omega
       obtain ⟨m, hm⟩ : ∃ m, e[a]? = some m := ⟨_, List.getElem?_eq_getElem hal2⟩
       have hcs : ∀ i x, e[i]? = some x → NdAt wr b (o + i * 4) x := by
         obtain ⟨b', o', h1, _, h2⟩ := (HS.out.below hwr).at_ hal2
         injection h1 with h1; injection h1 with h1 h3; subst h1 h3; exact h2
       obtain ⟨m0, m1, m2, m3⟩ := hcs a m hm
       have HM := Lib.hid hm
       have hih := fun (W : World) (r : Bool) (hW : Below wr.heap.size wr W) => HI.out fk2 (by omega) a W (some ⟨b, o, none⟩) c r (by omega) hc hcm (by omega) HOK.out (((HS.out.below hwr).below (hW.mono (by have := hwr.size; omega))).more (Nat.le_trans hwr.size hW.size))
       have HIH := Lib.hid hih
       clear hcs hm hih m1 m3 m0
       cases hr : (x.op == 6) with
       | true =>
         by_cases hlate : sLate l m.s = true
         · have HVN : Hid (bGo e (f + 1) (.one (x.op == 7)) i = none) := by
             have h1 := HM.out
             show _ = _
             rw [HV.out, HPP.out, HK.out, hr]; simp [bGo, h1, hlate]
           unfold sLate at hlate
           go_wp2_with fail
           go_ret
           exact ⟨ret_int (by rw [HVN.out]; rfl), hwr⟩
         · have hlate : sLate l m.s = false := by simpa using hlate
           have HK2 : ∀ v, bGo e fk2 (.one true) a = v → Hid (bGo e (f + 1) (.one (x.op == 7)) i = match v with | none => none | some j => bGo e fk2 (.more c3 true m.s) j) := by
             intro v hv
             have h1 := HM.out
             show _ = _
             rw [HV.out, HPP.out, HK.out, hr]; simp [bGo, h1, hv, hlate]
             cases v <;> rfl
           have HK3 := Lib.hid HK2
           clear HK2
           unfold sLate at hlate
           cases hv : bGo e fk2 (.one true) a with
           | none =>
             have HC : ∀ W, Below wr.heap.size wr W → Calls Tryz.prog 38 #[.slice (some ⟨b, o, none⟩) e.length c, .int .i64 a, .bool true] W fun r w' => r = .returned (.int .i64 (-1)) ∧ Below W.heap.size W w' := fun W hW => by
               have := HIH.out W true hW; rw [hv] at this; exact this
             have HC2 := Lib.hid HC
             have HVN := HK3.out none hv
             clear HC hv
             go_wp2_with (go_at_call 38; refine (HC2.out _ (Below.refl _ _)).mono ?_; rintro r w3 ⟨rfl, hb3⟩)
             go_ret
             exact ⟨ret_int (by rw [HVN.out]; rfl), hwr.trans (hb3.mono hwr.size)⟩
           | some j =>
             obtain ⟨hjl, _, haj⟩ := bGo_bound e fk2 (.one true) a j hv
             have hjl := hjl hal
             have haj := haj _ rfl
             have HC : ∀ W, Below wr.heap.size wr W → Calls Tryz.prog 38 #[.slice (some ⟨b, o, none⟩) e.length c, .int .i64 a, .bool true] W fun r w' => r = .returned (.int .i64 (j : Int)) ∧ Below W.heap.size W w' := fun W hW => by
               have := HIH.out W true hW; rw [hv] at this; exact this
             have HC2 := Lib.hid HC
             have HKN : Hid (bGo e f (.more P true ⟨#[]⟩) (i + 1) = bGo e fk2 (.more c3 true m.s) j) := by
               have := HK3.out _ hv
               have h3 := HV.out
               rw [HPP.out, hr] at h3
               exact h3.symm.trans this
             clear HC hv
             go_wp2_with (go_at_call 38; refine (HC2.out _ (Below.refl _ _)).mono ?_; rintro r w3 ⟨rfl, hb3⟩)
             go_roundw
             case rel => exact ⟨k + 1, c3, fk2, j, m.s, rfl, by go_num, rfl, by omega, by omega, by omega, by omega, by omega, by omega, HKN, hbr.trans (hb3.mono hbr.size)⟩
             case measure => simp [intOf]; omega
       | false =>
         have HK2 : ∀ v, bGo e fk2 (.one false) a = v → Hid (bGo e (f + 1) (.one (x.op == 7)) i = match v with | none => none | some j => bGo e fk2 (.more c3 false l) j) := by
           intro v hv
           have h1 := HM.out
           show _ = _
           rw [HV.out, HPP.out, HK.out, hr]; simp [bGo, h1, hv]
           cases v <;> rfl
         have HK3 := Lib.hid HK2
         clear HK2
         cases hv : bGo e fk2 (.one false) a with
         | none =>
           have HC : ∀ W, Below wr.heap.size wr W → Calls Tryz.prog 38 #[.slice (some ⟨b, o, none⟩) e.length c, .int .i64 a, .bool false] W fun r w' => r = .returned (.int .i64 (-1)) ∧ Below W.heap.size W w' := fun W hW => by
             have := HIH.out W false hW; rw [hv] at this; exact this
           have HC2 := Lib.hid HC
           have HVN := HK3.out none hv
           clear HC hv
           go_wp2_with (go_at_call 38; refine (HC2.out _ (Below.refl _ _)).mono ?_; rintro r w3 ⟨rfl, hb3⟩)
           go_ret
           exact ⟨ret_int (by rw [HVN.out]; rfl), hwr.trans (hb3.mono hwr.size)⟩
         | some j =>
           obtain ⟨hjl, _, haj⟩ := bGo_bound e fk2 (.one false) a j hv
           have hjl := hjl hal
           have haj := haj _ rfl
           have HC : ∀ W, Below wr.heap.size wr W → Calls Tryz.prog 38 #[.slice (some ⟨b, o, none⟩) e.length c, .int .i64 a, .bool false] W fun r w' => r = .returned (.int .i64 (j : Int)) ∧ Below W.heap.size W w' := fun W hW => by
             have := HIH.out W false hW; rw [hv] at this; exact this
           have HC2 := Lib.hid HC
           have HKN : Hid (bGo e f (.more P false ⟨#[]⟩) (i + 1) = bGo e fk2 (.more c3 false l) j) := by
             have := HK3.out _ hv
             have h3 := HV.out
             rw [HPP.out, hr] at h3
             exact h3.symm.trans this
           clear HC hv
           go_wp2_with (go_at_call 38; refine (HC2.out _ (Below.refl _ _)).mono ?_; rintro r w3 ⟨rfl, hb3⟩)
           go_roundw
           case rel => exact ⟨k + 1, c3, fk2, j, l, rfl, by go_num, rfl, by omega, by omega, by omega, by omega, by omega, by omega, HKN, hbr.trans (hb3.mono hbr.size)⟩
           case measure => simp [intOf]; omega
   · obtain rfl : c2 = 0 := by omega
     have HVS : Hid (bGo e (f + 1) (.one (x.op == 7)) i = some a) := by
       show _ = _
       rw [HV.out, HPP.out, HK.out]
       cases fk <;> simp [bGo]
     go_wp2_with fail
     go_ret
     exact ⟨ret_int (by rw [HVS.out]; rfl), hwr⟩
end Go.Proofs.YtbggbcnfkcadjaaGreatDoor
namespace Go.Proofs.YtbggbcnfkcadjaaGreatDoor
open Go.RowKit
theorem beh_all (e : List Nd) : ∀ f i, BehOk e f i := by
 intro f
 induction f using Nat.strongRecOn with
 | _ f ih =>
   intro i
   by_cases hi : e.length ≤ i
   · exact beh_out e f i hi
   · have hil : i < e.length := by omega
     cases f with
     | zero => intro w A c fld hf; omega
     | succ f =>
       have hx : e[i]? = some e[i] := List.getElem?_eq_getElem hil
       cases hsh : shapedT e[i] with
       | false => exact beh_bad e f i _ hx hsh
       | true =>
         intro w A c fld hf hc hcm him hok hsl
         by_cases h7 : (e[i].op == 7) = fld
         · exact beh_yes e f i _ hx hsh (fun f' hf i' => ih f' (by omega) i') w A c fld h7 hf hc hcm him hok hsl
         · exact beh_no e f i _ hx hsh w A c fld h7 hf hc hcm him hok hsl
set_option maxHeartbeats 800000 in
theorem tree_Check (e : List Nd) (A : Option Addr) (c : Nat) (w : World) (hc : e.length ≤ c) (hcm : c ≤ 9223372036854775807) (hok : NdOk e) (hsl : NdSl w w.heap.size A e) :
   Calls Tryz.prog 21 #[.slice A e.length c] w fun r w' => r = .returned (errV (treeErr e)) ∧ Below w.heap.size w w' := by
 by_cases h : 200 < e.length
 · have HV : Hid (treeErr e = 4) := by show _ = _; simp [treeErr, h]
   clear hok hsl
   go_enter Tryz.func21, Tryz.ntmps21
   go_wp2_with fail
   go_ret
   exact ⟨ret_val (by rw [HV.out]; rfl), Below.refl _ _⟩
 · have hb := beh_all e (2 * e.length) 0 w A c false (by omega) hc hcm (by omega) hok hsl
   cases hv : bGo e (2 * e.length) (.one false) 0 with
   | none =>
     have HV : Hid (treeErr e = 1) := by show _ = _; simp [treeErr, h, hv]
     rw [hv] at hb
     have HB : Hid (Calls Tryz.prog 38 #[.slice A e.length c, .int .i64 0, .bool false] w fun r w' => r = .returned (.int .i64 (-1)) ∧ Below w.heap.size w w') := hb
     clear hv hb hok hsl
     have hne : ((-1 : Int) != (e.length : Int)) = true := by rw [bne_iff_ne]; omega
     go_enter Tryz.func21, Tryz.ntmps21
     go_wp2_with (go_at_call 38; refine HB.out.mono ?_; rintro r w1 ⟨rfl, hb1⟩)
     go_ret
     exact ⟨ret_val (by rw [HV.out]; rfl), hb1⟩
   | some j =>
     have HV : Hid (treeErr e = if j = e.length then 0 else 1) := by show _ = _; simp [treeErr, h, hv]
     rw [hv] at hb
     have HB : Hid (Calls Tryz.prog 38 #[.slice A e.length c, .int .i64 0, .bool false] w fun r w' => r = .returned (.int .i64 (j : Int)) ∧ Below w.heap.size w w') := hb
     clear hv hb hok hsl
     by_cases hj : j = e.length
     · have hne : ((j : Int) != (e.length : Int)) = false := by rw [hj]; simp
       have HJ := Lib.hid hj
       clear hj
       go_enter Tryz.func21, Tryz.ntmps21
       go_wp2_with (go_at_call 38; refine HB.out.mono ?_; rintro r w1 ⟨rfl, hb1⟩)
       go_ret
       exact ⟨ret_val (by rw [HV.out, if_pos HJ.out]; rfl), hb1⟩
     · have hne : ((j : Int) != (e.length : Int)) = true := by rw [bne_iff_ne]; omega
       go_enter Tryz.func21, Tryz.ntmps21
       go_wp2_with (go_at_call 38; refine HB.out.mono ?_; rintro r w1 ⟨rfl, hb1⟩)
       go_ret
       exact ⟨ret_val (by rw [HV.out, if_neg hj]; rfl), hb1⟩
end Go.Proofs.YtbggbcnfkcadjaaGreatDoor
namespace Go.Proofs.YtbggbcnfkcadjaaGreatDoor
set_option maxRecDepth 100000
open Go.RowKit Go.Sort
def printP (e : List Nd) : List Tk × Int := if treeErr e ≠ 0 then ([], treeErr e) else if 300 < (wordsW e).length then ([], 4) else (wordsW e, 0)
abbrev TabP (w : World) : Prop := Lib.TabIs Tryz.prog w "internal/strconv.uint64pow10" .u64 Lib.pow10Tab
structure PrBack (w : World) (r : Ending) (w' : World) (q : List Tk × Int) : Prop where
 ex : ∃ A c, r = .returned (.tuple #[.slice A q.1.length c, errV q.2]) ∧ q.1.length ≤ c ∧ c ≤ 9223372036854775807 ∧ TkSl w' w'.heap.size A q.1
 below : RowKit.Below w.heap.size w w'
theorem PrBack.none {w w' : World} {k : Int} (h : RowKit.Below w.heap.size w w') : PrBack w (.returned (.tuple #[.slice none 0 0, errV k])) w' ([], k) := ⟨⟨Option.none, 0, rfl, by simp, by simp, fun h => absurd rfl h⟩, h⟩
theorem print_start {w w1 : World} {b o c : Nat} {e : List Nd} (hsl : NdSl w w.heap.size (some ⟨b, o, none⟩) e) (hb : b < w.heap.size) (hc : e.length ≤ c) (hcm : c ≤ 9223372036854775807) (htab : TabP w) (hb1 : RowKit.Below w.heap.size w w1) :
   Pt w1.heap.size (w1.alloc (.cells #[.slice (some ⟨b, o, none⟩) e.length c, .slice none 0 0] 57)) ⟨b, o, c, .slice none 0 0⟩ e [] := by
 have hb2 : RowKit.Below w1.heap.size w1 (w1.alloc (.cells #[.slice (some ⟨b, o, none⟩) e.length c, .slice none 0 0] 57)) := by (repeat (first | assumption | exact Below.refl _ _ | apply Below.drew | apply below_drewN | (refine Below.alloc ?_ (by first | exact Nat.le_refl _ | omega | (simp; done) | (simp; omega)) _)))
 refine ⟨Blk.new w1 _ _, World.ownsRow_nil _ _ _ _, ((hsl.below hb1).more hb1.size).below hb2, hc, hcm, Nat.lt_of_lt_of_le hb hb1.size, fun w' h => ?_⟩
 exact Lib.tabBelow_of_tabIs htab w' (hb1.trans ((hb2.trans h).mono hb1.size))
set_option maxHeartbeats 3200000 in
theorem phrase_Print (e : List Nd) (A : Option Addr) (c : Nat) (w : World) (hc : e.length ≤ c) (hcm : c ≤ 9223372036854775807) (hsl : NdSl w w.heap.size A e) (hok : NdOk e) (hk : NumK e) (htab : TabP w) :
   Calls Tryz.prog 10 #[.slice A e.length c] w fun r w' => PrBack w r w' (printP e) := by
 have HT := Lib.hid (tree_Check e A c w hc hcm hok hsl)
 by_cases h0 : treeErr e = 0
 · obtain ⟨hl, hex⟩ := (tree_iff e).1 h0
   have hne := ex_nonil hex
   obtain ⟨b, o, rfl, hb, -⟩ := hsl hne
   rw [h0] at HT
   have HST := Lib.hid (fun w1 (h : RowKit.Below w.heap.size w w1) => print_start hsl hb hc hcm htab h)
   have HNX := Lib.hid (fun pb => next_all pb _ e (show (200 : Nat) ≤ 1000 by decide) hl hex hk)
   have hwl := words_len _ e (Nat.le_refl _) hex
   have HQ : Hid (printP e = if 300 < (wordsW e).length then ([], 4) else (wordsW e, 0)) := by show _ = _; unfold printP; rw [if_neg (by simp [h0])]
   clear hsl hok hk htab h0 hex hne hb
   go_enter Tryz.func10, Tryz.ntmps10
   go_wp2_with fail
   refine HT.out.mono ?_
   rintro r w1 ⟨rfl, hb1⟩
   have HB1 := Lib.hid hb1
   have HP := Lib.hid (HST.out w1 hb1)
   clear hb1 HT
   go_wp2_with fail
   refine (HNX.out w1.heap.size _ _ [] [] (wordsW e) (by rw [List.append_nil]; exact HP.out) (by simp; omega) rfl).mono ?_
   rintro r w2 ⟨rfl, S2, hP2, hF2⟩
   obtain ⟨-, A2, c2, hv2, hn2, hm2, hs2⟩ := own_formG tk_ok hP2.row
   have k1 : w2.cell? ⟨w1.heap.size, 1, none⟩ = some (.slice A2 (wordsW e).length c2) := by rw [← hv2]; exact hP2.blk.cell 1
   have hb2 : RowKit.Below w1.heap.size w1 w2 := by
     have h1 : RowKit.Below w1.heap.size w1 (w1.alloc (.cells #[.slice (some ⟨b, o, none⟩) e.length c, .slice none 0 0] 57)) := by (repeat (first | assumption | exact Below.refl _ _ | apply Below.drew | apply below_drewN | (refine Below.alloc ?_ (by first | exact Nat.le_refl _ | omega | (simp; done) | (simp; omega)) _)))
     exact h1.trans (Fr.below HP.out hF2)
   have HB2 := Lib.hid (HB1.out.trans (hb2.mono HB1.out.size))
   have HS := Lib.hid hs2
   clear hP2 hF2 hv2 hs2 hb2 HP HB1
   by_cases h3 : 300 < (wordsW e).length
   · have t3 : decide ((300 : Int) < ((wordsW e).length : Int)) = true := by simp; omega
     have HQ2 : Hid (printP e = ([], 4)) := by show _ = _; rw [HQ.out, if_pos h3]
     clear h3
     go_wp2_with fail
     refine bodyPost_ret (v := .tuple #[.slice none 0 0, .iface 33 (.int .i64 4)]) (by simp [results, Tryz.results10, go_sem]) rfl ?_
     rw [HQ2.out]
     exact PrBack.none (k := 4) HB2.out
   · have t3 : decide ((300 : Int) < ((wordsW e).length : Int)) = false := by simp; omega
     have HQ2 : Hid (printP e = (wordsW e, 0)) := by show _ = _; rw [HQ.out, if_neg h3]
     clear h3
     go_wp2_with fail
     refine bodyPost_ret (v := .tuple #[.slice A2 (wordsW e).length c2, .nilIface]) (by simp [results, Tryz.results10, go_sem]) rfl ?_
     rw [HQ2.out]
     exact ⟨⟨A2, c2, rfl, hn2, hm2, HS.out⟩, HB2.out⟩
 · have HQ : Hid (printP e = ([], treeErr e)) := by show _ = _; unfold printP; rw [if_pos h0]
   rw [HQ.out]
   have ht : (treeErr e != 0) = true := by simpa using h0
   clear hsl hok hk htab h0 HQ
   generalize treeErr e = k at HT ht
   go_enter Tryz.func10, Tryz.ntmps10
   go_wp2_with fail
   refine HT.out.mono ?_
   rintro r w1 ⟨rfl, hb1⟩
   have HB1 := Lib.hid hb1
   clear hb1 HT
   go_wp2_with fail
   refine bodyPost_ret (v := .tuple #[.slice none 0 0, errV k]) (by simp [results, Tryz.results10, go_sem]) rfl ?_
   exact PrBack.none HB1.out
end Go.Proofs.YtbggbcnfkcadjaaGreatDoor
namespace Go.Proofs.YtbggbcnfkcadjaaGreatDoor
set_option maxRecDepth 100000
open Go.ChangeShapes Go.WideShapes Go.RowKit Go.Deep
theorem cells_intN : Tryz.prog.cellsOf 3 = 1 := by kernel_rfl
theorem nd_okN : EncOk Nd.cells 4 := ⟨fun _ => rfl, by omega, fun x u hu => by
 simp only [Nd.cells, List.mem_cons, List.not_mem_nil, or_false] at hu
 rcases hu with rfl | rfl | rfl | rfl <;> rfl⟩
theorem SlG.ndsN {w : World} {B : Nat} {A : Option Addr} {xs : List Nd} (h : SlG Nd.cells 4 w B A xs) : NdSl w B A xs := fun hne => by
 obtain ⟨b, o, e, hb, hc⟩ := h hne
 exact ⟨b, o, e, hb, fun i x hx => ⟨hc i x hx 0 _ rfl, hc i x hx 1 _ rfl, hc i x hx 2 _ rfl, hc i x hx 3 _ rfl⟩⟩
theorem i64_ofN {a : Int} (h : (Lit.int .i64 a).wf = true) : -9223372036854775808 ≤ a ∧ a ≤ 9223372036854775807 := by
 unfold Lit.wf at h
 rw [Bool.and_eq_true, decide_eq_true_eq, decide_eq_true_eq] at h
 exact h
section
variable {H : Type} {enc : TypeId × Value → H} {W : World}
theorem nodeN_trod {n : Nat} {cs : List Value} {y : DataW H × List MemPlace} (h : DataW.trod enc Tryz.prog W 0 (fun _ => true) true n 29 cs = some y) :
   ∃ x : Nd, cs = x.cells ∧ y.1 = ndData x ∧ (-9223372036854775808 ≤ x.n ∧ x.n ≤ 9223372036854775807) := by
 obtain ⟨x, h1, h2⟩ := node_trod h
 refine ⟨x, h1, h2, ?_⟩
 obtain ⟨xs, m, _, hy, hlen, hxl, hf⟩ := DataW.trod_struct Tryz.underlying29 h
 subst h1
 match xs, hxl with
 | [y0, y1, y2, y3], _ =>
   have e1 : DataW.trod enc Tryz.prog W 0 (fun _ => true) true m 3 ((x.cells.drop 1).take (Tryz.prog.cellsOf 3)) = some y1 := hf 1 _ rfl
   simp only [cells_intN, Nd.cells, List.drop_zero, List.drop_succ_cons, List.take_succ_cons, List.take_zero] at e1
   obtain ⟨a1, q1, r1, i1⟩ := DataW.trod_int Tryz.underlying3 e1
   simp only [List.cons.injEq, and_true, Value.int.injEq, true_and] at q1
   rw [q1]
   exact i64_ofN i1
theorem open_nodesN {b0 : Nat} {v : Value} {d : DataW H} {p : List MemPlace} (hv : Value.okWide Tryz.prog W .any b0 22 v) (h : DataW.Trod enc Tryz.prog W 0 (fun _ => true) true 22 v d p) :
   ∃ (A : Option Addr) (xs : List Nd) (c : Nat), v = .slice A xs.length c ∧ xs.length ≤ c ∧ c ≤ 9223372036854775807 ∧ NdSl W W.heap.size A xs ∧ NumK xs ∧ (xs = [] ∨ ∃ sp, d = .slice (xs.map ndData) sp) := by
 obtain ⟨a0, len, cap, rfl⟩ := okWide_slice Tryz.underlying22 hv
 obtain ⟨fuel, hf⟩ := h
 obtain ⟨A, xs, c, h1, h2, h3, h4, h5, h6⟩ := open_gen (Good := fun x : Nd => -9223372036854775808 ≤ x.n ∧ x.n ≤ 9223372036854775807) Tryz.underlying22 cells_node nd_okN (fun _ _ _ h => nodeN_trod h) hf
 simp only [Value.cells, List.cons.injEq, and_true] at h1
 exact ⟨A, xs, c, h1, h2, h3, h4.ndsN, fun x hx _ => h5 x hx, h6⟩
end
end Go.Proofs.YtbggbcnfkcadjaaGreatDoor
namespace Go.Proofs.YtbggbcnfkcadjaaGreatDoor
open Go.RowKit
theorem dec_len : ∀ (k u : Nat), u < 10 ^ (k + 1) → (Lib.decDigits u).length ≤ k + 1 := by
 intro k
 induction k with
 | zero => intro u h; rw [Lib.decDigits, dif_pos (by omega)]; simp
 | succ k ih =>
   intro u h
   rw [Lib.decDigits]
   split
   · simp
   · have := ih (u / 10) (by rw [Nat.pow_succ] at h; exact Nat.div_lt_of_lt_mul (by omega))
     simp; omega
end Go.Proofs.YtbggbcnfkcadjaaGreatDoor
namespace Go.Proofs.YtbggbcnfkcadjaaGreatDoor
set_option maxRecDepth 100000
open Go.RowKit Go.Sort
theorem lp_end {g l : Nat} {e : List Nd} {ts : List Tk} (h : kdR ts ≠ 5) : pa (g + 1) (.lp l e) ts = .ok e ts := by
 cases ts with
 | nil => rfl
 | cons t r =>
   show (if chOp l t = 0 then _ else _) = _
   rw [if_pos (by unfold chOp; rw [if_pos (show t.kind ≠ 5 from h)])]
theorem lp_go {g l : Nat} {e : List Nd} {ts : List Tk} {j : Nat} {t : Tk} (ht : ts[j]? = some t) (h : ¬ chOp l t = 0) : pa (g + 1) (.lp l e) (ts.drop j) = (pa g (subT l) (ts.drop (j + 1))).bind fun e2 r2 => pa g (.lp l (opX (chOp l t) (e ++ e2))) r2 := by
 rw [drop_cons ht]
 show (if chOp l t = 0 then _ else _) = _
 rw [if_neg h]
end Go.Proofs.YtbggbcnfkcadjaaGreatDoor
namespace Go.Proofs.YtbggbcnfkcadjaaGreatDoor
set_option maxRecDepth 100000
open Go.RowKit Go.Sort
theorem GlC.later {w w' : World} (h : GlC w) (hb : RowKit.Below w.heap.size w w') (hg : 9 ≤ w.heap.size) : GlC w' := h.keep fun p hp => hb.cell (by omega)
end Go.Proofs.YtbggbcnfkcadjaaGreatDoor
namespace Go.Proofs.YtbggbcnfkcadjaaGreatDoor
set_option maxRecDepth 100000
open Go.RowKit Go.Sort
theorem po_end {g : Nat} {e : List Nd} {ts : List Tk} (h : hdS [46] ts = false) : pa (g + 1) (.po e) ts = .ok e ts := by
 show (if hdS [46] ts = true then _ else _) = _
 rw [if_neg (by rw [h]; simp)]
end Go.Proofs.YtbggbcnfkcadjaaGreatDoor
namespace Go.Proofs.YtbggbcnfkcadjaaGreatDoor
set_option maxRecDepth 100000
open Go.RowKit Go.Sort
theorem re_end {g : Nat} {ps : List (List Nd)} {last : ByteArray} {ts : List Tk} {j : Nat} (h : hdS [125] (ts.drop j) = true) : pa (g + 1) (.re ps last) (ts.drop j) = .ok (⟨6, ps.length, ⟨#[]⟩, ⟨#[]⟩⟩ :: ps.flatten) (ts.drop (j + 1)) := by
 show (if hdS [125] (ts.drop j) = true then _ else _) = _
 rw [if_pos h, tail_drop']
end Go.Proofs.YtbggbcnfkcadjaaGreatDoor
namespace Go.Proofs.YtbggbcnfkcadjaaGreatDoor
open Go.RowKit Go.Sort
end Go.Proofs.YtbggbcnfkcadjaaGreatDoor
namespace Go.Proofs.YtbggbcnfkcadjaaGreatDoor
open Go.RowKit Go.Sort
theorem Blk.grown {w w' : World} {g : Nat} {t : TypeId} {cs : Array Value} {row : Option Nat} (h : Blk w g t cs) (hg : w.grownBy w' row) (hn : some g ≠ row) : Blk w' g t cs := (hg.block g h.lt hn).trans h
end Go.Proofs.YtbggbcnfkcadjaaGreatDoor
namespace Go.Proofs.YtbggbcnfkcadjaaGreatDoor
open Go.RowKit Go.Sort
end Go.Proofs.YtbggbcnfkcadjaaGreatDoor
namespace Go.Proofs.YtbggbcnfkcadjaaGreatDoor
open Go.RowKit Go.Sort
end Go.Proofs.YtbggbcnfkcadjaaGreatDoor
namespace Go.Proofs.YtbggbcnfkcadjaaGreatDoor
open Go.RowKit Go.Sort Go.MuLone
end Go.Proofs.YtbggbcnfkcadjaaGreatDoor
namespace Go.Proofs.YtbggbcnfkcadjaaGreatDoor
open Go.RowKit Go.Sort
end Go.Proofs.YtbggbcnfkcadjaaGreatDoor
namespace Go.Proofs.YtbggbcnfkcadjaaGreatDoor
open Go.RowKit
def PT.ne : PT → Prop
 | .lp _ e => e ≠ [] | .po e => e ≠ [] | _ => True
end Go.Proofs.YtbggbcnfkcadjaaGreatDoor
namespace Go.Proofs.YtbggbcnfkcadjaaGreatDoor
open Go.RowKit
set_option maxRecDepth 100000 in
set_option maxHeartbeats 400000 in
theorem r2_isLetter (b : Int) (w : World) :
   Calls Tryz.prog 76 #[.int .u8 b] w fun e w' => e = .returned (.bool (letterI b)) ∧ w = w' := by
 go_enter Tryz.func76, Tryz.ntmps76
 go_wp2
 all_goals (go_ret; exact ⟨ret_bool (by rw [Bool.eq_iff_iff]; simp [letterI]; omega), rfl⟩)
set_option maxRecDepth 100000 in
set_option maxHeartbeats 400000 in
theorem r2_isDigit (b : Int) (w : World) :
   Calls Tryz.prog 74 #[.int .u8 b] w fun e w' => e = .returned (.bool (digitI b)) ∧ w = w' := by
 go_enter Tryz.func74, Tryz.ntmps74
 go_wp2
 all_goals (go_ret; exact ⟨ret_bool (by rw [Bool.eq_iff_iff]; simp [digitI]; omega), rfl⟩)
set_option maxRecDepth 100000 in
set_option maxHeartbeats 1600000 in
theorem r2_run_digits (s : ByteArray) (i : Nat) (w : World) (hs : s.size ≤ 140737488351232) (hi : i ≤ s.size) :
   Calls Tryz.prog 75 #[.string s, .int .i64 i, .bool true] w fun e w' => e = .returned (.int .i64 (runL digitI s i)) ∧ w = w' := by
 go_enter Tryz.func75, Tryz.ntmps75
 go_wp2_with fail
 go_loop [1] (fun t => ∃ k : Nat, i ≤ k ∧ k ≤ s.size ∧ t = .int .i64 k ∧ Hid (runL digitI s k = runL digitI s i)) (fun t => s.size - (intOf t).toNat)
 case atStart => exact ⟨i, Nat.le_refl _, hi, rfl, rfl⟩
 case round =>
   obtain ⟨k, hik, hk, rfl, HK⟩ := hrel
   by_cases hlt : k < s.size
   · by_cases hp : digitI (s[k].toNat : Int) = true
     · have HK2 : Hid (runL digitI s (k + 1) = runL digitI s i) := by show _ = _; rw [← runL_hit hlt hp]; exact HK.out
       go_wp2_with (go_at_call 74; refine (r2_isDigit _ _).mono ?_; rintro e w' ⟨rfl, rfl⟩)
       go_round
       case rel => exact ⟨k + 1, by omega, by omega, by go_num, HK2⟩
       case measure => simp [intOf]; omega
     · have hp : digitI (s[k].toNat : Int) = false := by simpa using hp
       have HK2 : Hid (runL digitI s i = k) := by show _ = _; rw [← HK.out]; exact runL_miss hlt hp
       go_wp2_with (go_at_call 74; refine (r2_isDigit _ _).mono ?_; rintro e w' ⟨rfl, rfl⟩)
       go_ret
       exact ⟨ret_int (by rw [HK2.out]), rfl⟩
   · have HK2 : Hid (runL digitI s i = k) := by show _ = _; rw [← HK.out]; exact runL_end (by omega)
     go_wp2_with fail
     go_ret
     exact ⟨ret_int (by rw [HK2.out]), rfl⟩
set_option maxRecDepth 100000 in
set_option maxHeartbeats 1600000 in
theorem r2_run_name (s : ByteArray) (i : Nat) (w : World) (hs : s.size ≤ 140737488351232) (hi : i ≤ s.size) :
   Calls Tryz.prog 75 #[.string s, .int .i64 i, .bool false] w fun e w' => e = .returned (.int .i64 (runL nameI s i)) ∧ w = w' := by
 go_enter Tryz.func75, Tryz.ntmps75
 go_wp2_with fail
 go_loop [1] (fun t => ∃ k : Nat, i ≤ k ∧ k ≤ s.size ∧ t = .int .i64 k ∧ Hid (runL nameI s k = runL nameI s i)) (fun t => s.size - (intOf t).toNat)
 case atStart => exact ⟨i, Nat.le_refl _, hi, rfl, rfl⟩
 case round =>
   obtain ⟨k, hik, hk, rfl, HK⟩ := hrel
   by_cases hlt : k < s.size
   · by_cases hp : digitI (s[k].toNat : Int) = true
     · have HK2 : Hid (runL nameI s (k + 1) = runL nameI s i) := by show _ = _; rw [← runL_hit hlt (by simp [nameI, hp])]; exact HK.out
       go_wp2_with (go_at_call 74; refine (r2_isDigit _ _).mono ?_; rintro e w' ⟨rfl, rfl⟩)
       go_round
       case rel => exact ⟨k + 1, by omega, by omega, by go_num, HK2⟩
       case measure => simp [intOf]; omega
     · have hp : digitI (s[k].toNat : Int) = false := by simpa using hp
       by_cases hq : letterI (s[k].toNat : Int) = true
       · have HK2 : Hid (runL nameI s (k + 1) = runL nameI s i) := by show _ = _; rw [← runL_hit hlt (by simp [nameI, hq])]; exact HK.out
         go_wp2_with (first | (go_at_call 74; refine (r2_isDigit _ _).mono ?_; rintro e w' ⟨rfl, rfl⟩) | (go_at_call 76; refine (r2_isLetter _ _).mono ?_; rintro e w' ⟨rfl, rfl⟩))
         go_round
         case rel => exact ⟨k + 1, by omega, by omega, by go_num, HK2⟩
         case measure => simp [intOf]; omega
       · have hq : letterI (s[k].toNat : Int) = false := by simpa using hq
         have HK2 : Hid (runL nameI s i = k) := by show _ = _; rw [← HK.out]; exact runL_miss hlt (by simp [nameI, hq, hp])
         go_wp2_with (first | (go_at_call 74; refine (r2_isDigit _ _).mono ?_; rintro e w' ⟨rfl, rfl⟩) | (go_at_call 76; refine (r2_isLetter _ _).mono ?_; rintro e w' ⟨rfl, rfl⟩))
         go_ret
         exact ⟨ret_int (by rw [HK2.out]), rfl⟩
   · have HK2 : Hid (runL nameI s i = k) := by show _ = _; rw [← HK.out]; exact runL_end (by omega)
     go_wp2_with fail
     go_ret
     exact ⟨ret_int (by rw [HK2.out]), rfl⟩
theorem prefix_step {s x : ByteArray} {i k : Nat} (hx : k < x.size) (hs : i + k < s.size) : (x.toList.drop k).isPrefixOf (s.toList.drop (i + k)) = (x[k] == s[i + k] && (x.toList.drop (k + 1)).isPrefixOf (s.toList.drop (i + (k + 1)))) := by
 rw [toList_drop x k hx, toList_drop s (i + k) hs, List.isPrefixOf_cons_cons]; rfl
set_option maxRecDepth 100000 in
set_option maxHeartbeats 1600000 in
theorem r2_begins (s : ByteArray) (i : Nat) (x : ByteArray) (w : World) (hs : s.size ≤ 140737488351232) (hi : i ≤ s.size) (hx : x.size ≤ 140737488351232) :
   Calls Tryz.prog 78 #[.string s, .int .i64 i, .string x] w fun e w' => e = .returned (.bool (x.toList.isPrefixOf (s.toList.drop i))) ∧ Below w.heap.size w w' := by
 by_cases hl : (s.size : Int) - i < x.size
 · have HP : Hid (x.toList.isPrefixOf (s.toList.drop i) = false) := by
     show _ = _
     rw [Bool.eq_false_iff]
     intro h
     have := List.IsPrefix.length_le (List.isPrefixOf_iff_prefix.1 h)
     rw [List.length_drop, toList_len, toList_len] at this
     omega
   go_enter Tryz.func78, Tryz.ntmps78
   go_wp2_with fail
   go_ret
   exact ⟨ret_bool HP.out.symm, Below.refl _ _⟩
 · go_enter Tryz.func78, Tryz.ntmps78
   go_wp2_with fail
   go_loopw [7] (fun t wr => ∃ k : Nat, k ≤ x.size ∧ t = .int .i64 k ∧ Hid ((x.toList.drop k).isPrefixOf (s.toList.drop (i + k)) = x.toList.isPrefixOf (s.toList.drop i)) ∧ Below w.heap.size w wr) (fun t _ => x.size - (intOf t).toNat)
   case atStart => exact ⟨0, Nat.zero_le _, rfl, by simp [Hid], Below.refl _ _⟩
   case round =>
     obtain ⟨k, hk, rfl, HK, hbr⟩ := hrel
     by_cases hlt : k < x.size
     · have hsi : i + k < s.size := by omega
       have HS := Lib.hid (prefix_step hlt hsi)
       have hsum : IntKind.i64.wrap ((i : Int) + k) = (i : Int) + k := by rw [IntKind.wrap_i64]; omega
       have hpos : 0 ≤ (i : Int) + k := by omega
       have hnat : ((i : Int) + k).toNat = i + k := by omega
       have hix : ∀ W, (Instr.index 9 (.string s) (.int .i64 ((i : Int) + k))).run Tryz.prog W = .ok (.int .u8 (s[i + k].toNat : Int)) W := fun W => by
         rw [show (i : Int) + k = ((i + k : Nat) : Int) from by omega]; exact run_index_str s (i + k) hsi W
       by_cases he : x[k] = s[i + k]
       · have hne : ((s[i + k].toNat : Int) != (x[k].toNat : Int)) = false := by rw [he]; simp
         have HK2 : Hid ((x.toList.drop (k + 1)).isPrefixOf (s.toList.drop (i + (k + 1))) = x.toList.isPrefixOf (s.toList.drop i)) := by
           show _ = _; rw [← HK.out, HS.out, he]; simp
         clear he HS HK
         go_wp2_with fail
         go_quiet (fail)
         clear hsum hpos hnat hix
         go_wp2_with fail
         exact ⟨⟨k + 1, by omega, by go_num, HK2, below_drewN hbr _⟩, by simp [intOf]; omega⟩
       · have hne : ((s[i + k].toNat : Int) != (x[k].toNat : Int)) = true := by
           simp only [bne_iff_ne, ne_eq]
           intro h
           exact he (UInt8.toNat_inj.1 (by omega))
         have HK2 : Hid (x.toList.isPrefixOf (s.toList.drop i) = false) := by
           show _ = _; rw [← HK.out, HS.out]; simp [he]
         clear he HS HK
         go_wp2_with fail
         go_quiet (fail)
         clear hsum hpos hnat hix
         go_wp2_with fail
         go_ret
         exact ⟨ret_bool HK2.out.symm, below_drewN hbr _⟩
     · have HK2 : Hid (x.toList.isPrefixOf (s.toList.drop i) = true) := by show _ = _; rw [← HK.out, drop_none x k (by omega)]; rfl
       go_wp2_with fail
       go_ret
       exact ⟨ret_bool HK2.out.symm, hbr⟩
end Go.Proofs.YtbggbcnfkcadjaaGreatDoor
namespace Go.Proofs.YtbggbcnfkcadjaaGreatDoor
open Go.RowKit
def wdV (i : Nat) : Wd → Value
 | .ok kind t n => .tuple #[.agg #[.int .i64 kind, .string (bsOf t), .int .i64 i], .int .i64 ((i : Int) + n), .int .i64 0]
 | .bad k => .tuple #[.agg #[.int .i64 0, .string ⟨#[]⟩, .int .i64 0], .int .i64 0, .int .i64 k]
def WdPost (w : World) (i : Nat) (q : Wd) (e : Ending) (w' : World) : Prop := e = .returned (wdV i q) ∧ Below w.heap.size w w'
theorem WdPost.mk {w : World} {i : Nat} {q : Wd} {e : Ending} {w' : World} (he : e = .returned (wdV i q)) (hb : Below w.heap.size w w') : WdPost w i q e w' := ⟨he, hb⟩
theorem bs_snoc (acc : List UInt8) (c : UInt8) (s : ByteArray) (k : Nat) (hk : k < s.size) (hc : s[k] = c) : bsOf acc ++ s.extract k (k + 1) = bsOf (acc ++ [c]) := by
 refine bs_eq ?_
 have h1 : (s.extract k (k + 1)).toList = [c] := by
   rw [ByteArray.toList_eq, Lib.extract_data, show k + 1 - k = 1 from by omega, ← ByteArray.toList_eq, toList_drop s k hk, hc]; rfl
 have h2 : (bsOf acc).toList = acc := by rw [ByteArray.toList_eq]; rfl
 rw [ByteArray.toList_eq] at h1 h2 ⊢
 rw [ByteArray.data_append, Array.toList_append, h1, h2]
set_option maxRecDepth 100000 in
set_option maxHeartbeats 3200000 in
theorem r2_quoted (s : ByteArray) (i : Nat) (w : World) (hs : s.size ≤ 140737488351232) (hi : i < s.size) :
   Calls Tryz.prog 77 #[.string s, .int .i64 i] w (WdPost w i (quoP (s.toList.drop (i + 1)) [] 1)) := by
 obtain ⟨q, hq⟩ : ∃ q, quoP (s.toList.drop (i + 1)) [] 1 = q := ⟨_, rfl⟩
 rw [hq]
 have HQ := Lib.hid hq
 clear hq
 go_enter Tryz.func77, Tryz.ntmps77
 go_wp2_with fail
 go_loop [7, 8] (fun tt ii => ∃ p : Nat, ∃ acc : List UInt8, ∃ bl : ByteArray, i + 1 ≤ p ∧ p ≤ s.size ∧ acc.length ≤ p ∧ tt = .string bl ∧ ii = .int .i64 p ∧ Hid (bl = bsOf acc) ∧ Hid (quoP (s.toList.drop p) acc (p - i) = q)) (fun _ ii => s.size - (intOf ii).toNat)
 case atStart => exact ⟨i + 1, [], ⟨#[]⟩, Nat.le_refl _, by omega, by simp, rfl, by go_num, rfl, by show _ = _; rw [show i + 1 - i = 1 from by omega]; exact HQ.out⟩
 case round =>
   obtain ⟨p, acc, bl, hip, hp, hacc, rfl, rfl, HB, HP⟩ := hrel
   have hbls : bl.size ≤ s.size := by rw [HB.out]; show acc.length ≤ _; omega
   by_cases hlt : p < s.size
   · have hsd := toList_drop s p hlt
     rw [hsd, quoP_cons] at HP
     clear hsd
     by_cases h34 : s[p] = 34
     · rw [if_pos h34] at HP
       have t34 : ((s[p].toNat : Int) != 34) = false := by rw [h34]; rfl
       have hbs : bl.size = acc.length := by rw [HB.out]; rfl
       clear h34
       by_cases h60 : 60 < acc.length
       · have HR : Hid (q = .bad 4) := by show _ = _; rw [← HP.out, if_pos h60]
         have h60' : 60 < (bl.size : Int) := by omega
         clear HP hbs
         go_wp2_with fail
         refine bodyPost_ret (v := wdV i (.bad 4)) (by simp [results, Tryz.results77, go_sem, wdV]) rfl (WdPost.mk (by rw [HR.out]) (by (repeat (first | assumption | exact Below.refl _ _ | apply Below.drew | apply below_drewN | (refine Below.alloc ?_ (by first | exact Nat.le_refl _ | omega | (simp; done) | (simp; omega)) _)))))
       · have HR : Hid (q = .ok 3 acc (p - i + 1)) := by show _ = _; rw [← HP.out, if_neg h60]
         have h60' : ¬ 60 < (bl.size : Int) := by omega
         have hv : wdV i (.ok 3 acc (p - i + 1)) = .tuple #[.agg #[.int .i64 3, .string bl, .int .i64 i], .int .i64 ((p : Int) + 1), .int .i64 0] := by
           rw [HB.out, ← show (i : Int) + ((p - i + 1 : Nat) : Int) = (p : Int) + 1 from by omega]; rfl
         clear HP hbs
         go_wp2_with fail
         refine bodyPost_ret (v := .tuple #[.agg #[.int .i64 3, .string bl, .int .i64 i], .int .i64 ((p : Int) + 1), .int .i64 0]) (by simp [results, Tryz.results77, go_sem]) rfl (WdPost.mk (by rw [HR.out, hv]) (by (repeat (first | assumption | exact Below.refl _ _ | apply Below.drew | apply below_drewN | (refine Below.alloc ?_ (by first | exact Nat.le_refl _ | omega | (simp; done) | (simp; omega)) _)))))
     · rw [if_neg h34] at HP
       have t34 : ((s[p].toNat : Int) != 34) = true := bne_lit2 (d := 34) h34
       clear h34
       by_cases h92 : s[p] = 92
       · rw [if_pos h92] at HP
         have t92 : ((s[p].toNat : Int) == 92) = true := beq_lit h92
         clear h92
         by_cases hlt1 : p + 1 < s.size
         · rw [toList_drop s (p + 1) hlt1] at HP
           have hix := run_index_str s (p + 1) hlt1
           have hix : ∀ W, (Instr.index 9 (.string s) (.int .i64 ((p : Int) + 1))).run Tryz.prog W = .ok (.int .u8 (s[p + 1].toNat : Int)) W := hix
           have hge : ¬ (s.size : Int) ≤ (p : Int) + 1 := by omega
           by_cases hq2 : s[p + 1] = 34 ∨ s[p + 1] = 92
           · have HP2 : Hid (quoP (s.toList.drop (p + 2)) (acc ++ [s[p + 1]]) (p + 2 - i) = q) := by
               show _ = _; rw [← HP.out]; simp only; rw [if_pos hq2, show p + 2 - i = p - i + 2 from by omega]
             have HB2 : Hid (bl ++ s.extract (p + 1) (p + 2) = bsOf (acc ++ [s[p + 1]])) := by show _ = _; rw [HB.out]; exact bs_snoc acc _ s (p + 1) hlt1 rfl
             have hlo : ¬ (s[p + 1].toNat : Int) < 32 := by rcases hq2 with h | h <;> rw [h] <;> decide
             have hhi : ¬ 126 < (s[p + 1].toNat : Int) := by rcases hq2 with h | h <;> rw [h] <;> decide
             clear HP
             rcases hq2 with hq2 | hq2
             · have e34 : ((s[p + 1].toNat : Int) != 34) = false := by rw [hq2]; rfl
               clear hq2
               go_wp2_with fail
               exact ⟨⟨p + 2, acc ++ [s[p + 1]], _, by omega, by omega, by rw [List.length_append, List.length_singleton]; omega, rfl, by go_num, HB2, HP2⟩, by simp [intOf]; omega⟩
             · have e34 : ((s[p + 1].toNat : Int) != 34) = true := by rw [hq2]; rfl
               have e92 : ((s[p + 1].toNat : Int) != 92) = false := by rw [hq2]; rfl
               clear hq2
               go_wp2_with fail
               exact ⟨⟨p + 2, acc ++ [s[p + 1]], _, by omega, by omega, by rw [List.length_append, List.length_singleton]; omega, rfl, by go_num, HB2, HP2⟩, by simp [intOf]; omega⟩
           · have HR : Hid (q = .bad 1) := by show _ = _; rw [← HP.out]; simp only; rw [if_neg hq2]
             have e34 : ((s[p + 1].toNat : Int) != 34) = true := bne_lit2 (d := 34) (fun h => hq2 (.inl h))
             have e92 : ((s[p + 1].toNat : Int) != 92) = true := bne_lit2 (d := 92) (fun h => hq2 (.inr h))
             clear HP hq2
             go_wp2_with fail
             refine bodyPost_ret (v := wdV i (.bad 1)) (by simp [results, Tryz.results77, go_sem, wdV]) rfl (WdPost.mk (by rw [HR.out]) (by (repeat (first | assumption | exact Below.refl _ _ | apply Below.drew | apply below_drewN | (refine Below.alloc ?_ (by first | exact Nat.le_refl _ | omega | (simp; done) | (simp; omega)) _)))))
         · have HR : Hid (q = .bad 1) := by show _ = _; rw [← HP.out, drop_noneW s (p + 1) (by omega)]
           have hge : (s.size : Int) ≤ (p : Int) + 1 := by omega
           clear HP
           go_wp2_with fail
           refine bodyPost_ret (v := wdV i (.bad 1)) (by simp [results, Tryz.results77, go_sem, wdV]) rfl (WdPost.mk (by rw [HR.out]) (by (repeat (first | assumption | exact Below.refl _ _ | apply Below.drew | apply below_drewN | (refine Below.alloc ?_ (by first | exact Nat.le_refl _ | omega | (simp; done) | (simp; omega)) _)))))
       · rw [if_neg h92] at HP
         have t92 : ((s[p].toNat : Int) == 92) = false := bne_lit h92
         clear h92
         by_cases hlo : (s[p].toNat : Int) < 32
         · have HR : Hid (q = .bad 1) := by show _ = _; rw [← HP.out, if_neg (by simp [plainB]; omega)]
           clear HP
           go_wp2_with fail
           refine bodyPost_ret (v := wdV i (.bad 1)) (by simp [results, Tryz.results77, go_sem, wdV]) rfl (WdPost.mk (by rw [HR.out]) (by (repeat (first | assumption | exact Below.refl _ _ | apply Below.drew | apply below_drewN | (refine Below.alloc ?_ (by first | exact Nat.le_refl _ | omega | (simp; done) | (simp; omega)) _)))))
         · by_cases hhi : 126 < (s[p].toNat : Int)
           · have HR : Hid (q = .bad 1) := by show _ = _; rw [← HP.out, if_neg (by simp [plainB]; omega)]
             clear HP
             go_wp2_with fail
             refine bodyPost_ret (v := wdV i (.bad 1)) (by simp [results, Tryz.results77, go_sem, wdV]) rfl (WdPost.mk (by rw [HR.out]) (by (repeat (first | assumption | exact Below.refl _ _ | apply Below.drew | apply below_drewN | (refine Below.alloc ?_ (by first | exact Nat.le_refl _ | omega | (simp; done) | (simp; omega)) _)))))
           · have HP2 : Hid (quoP (s.toList.drop (p + 1)) (acc ++ [s[p]]) (p + 1 - i) = q) := by
               show _ = _; rw [← HP.out, if_pos (by simp [plainB]; omega), show p + 1 - i = p - i + 1 from by omega]
             have HB2 : Hid (bl ++ s.extract p (p + 1) = bsOf (acc ++ [s[p]])) := by show _ = _; rw [HB.out]; exact bs_snoc acc _ s p hlt rfl
             clear HP
             go_wp2_with fail
             exact ⟨⟨p + 1, acc ++ [s[p]], _, by omega, by omega, by rw [List.length_append, List.length_singleton]; omega, rfl, by go_num, HB2, HP2⟩, by simp [intOf]; omega⟩
   · have HR : Hid (q = .bad 1) := by show _ = _; rw [← HP.out, drop_noneW s p (by omega)]; rfl
     clear HP
     go_wp2_with fail
     refine bodyPost_ret (v := wdV i (.bad 1)) (by simp [results, Tryz.results77, go_sem, wdV]) rfl (WdPost.mk (by rw [HR.out]) (by (repeat (first | assumption | exact Below.refl _ _ | apply Below.drew | apply below_drewN | (refine Below.alloc ?_ (by first | exact Nat.le_refl _ | omega | (simp; done) | (simp; omega)) _)))))
end Go.Proofs.YtbggbcnfkcadjaaGreatDoor
namespace Go.Proofs.YtbggbcnfkcadjaaGreatDoor
open Go.RowKit
theorem num_trim {D : List UInt8} {k : Nat} (hk : k < D.length) (hz : ∀ j, j < k → D[j]? = some 48) (he : k + 1 = D.length ∨ D[k]? ≠ some 48) :
   D.drop k = (if D.dropWhile (· == 48) = [] then [48] else D.dropWhile (· == 48)) ∧ (19 < D.length - k ↔ 19 < (D.dropWhile (· == 48)).length) := by
 have h1 : D.dropWhile (· == 48) = (D.drop k).dropWhile (· == 48) := by
   clear he
   induction k generalizing D with
   | zero => rfl
   | succ k ih =>
     cases D with
     | nil => simp at hk
     | cons d r =>
       have h0 := hz 0 (by omega)
       simp at h0
       subst h0
       rw [List.dropWhile_cons_of_pos (by simp), List.drop_succ_cons]
       exact ih (by simpa using hk) (fun j hj => by have := hz (j + 1) (by omega); simpa using this)
 have hd : D.drop k = D[k] :: D.drop (k + 1) := List.drop_eq_getElem_cons hk
 by_cases h48 : D[k] = 48
 · have hl : k + 1 = D.length := by
     rcases he with h | h
     · exact h
     · exact absurd (by rw [List.getElem?_eq_getElem hk, h48]) h
   have hn : D.drop (k + 1) = [] := List.drop_eq_nil_of_le (by omega)
   rw [h1, hd, hn, h48]
   refine ⟨by simp, ?_⟩
   simp
   omega
 · have h2 : (D.drop k).dropWhile (· == 48) = D.drop k := by rw [hd, List.dropWhile_cons_of_neg (by simpa using h48)]
   rw [h1, h2, if_neg (by rw [hd]; exact List.cons_ne_nil _ _)]
   exact ⟨rfl, by rw [List.length_drop]⟩
def sgR : List (List UInt8) := [[40], [41], [91], [93], [123], [125], [44], [58], [46], [58, 58], [61, 61], [60], [60, 61], [38, 38], [124, 124], [33], [43], [45], [42]]
def sgB (l : List UInt8) (f x : List UInt8) : List UInt8 := if x.isPrefixOf l = true ∧ f.length < x.length then x else f
theorem sgR_step {k : Nat} {x : List UInt8} (hx : sgR[k]? = some x) (l : List UInt8) : (sgR.take (k + 1)).foldl (sgB l) [] = sgB l ((sgR.take k).foldl (sgB l) []) x := by
 rw [List.take_add_one, hx, List.foldl_append]; rfl
theorem preA (x a : UInt8) (r : List UInt8) : List.isPrefixOf [x] (a :: r) = (x == a) := by simp [List.isPrefixOf]
theorem preB (x y a : UInt8) (r : List UInt8) : List.isPrefixOf [x, y] (a :: r) = (x == a && r.head? == some y) := by
 cases r with
 | nil => simp [List.isPrefixOf]
 | cons b r =>
   simp only [List.isPrefixOf, List.head?_cons, Bool.and_true, Option.some_beq_some]
   congr 1
   exact BEq.comm
theorem sgR_all (l : List UInt8) : sgR.foldl (sgB l) [] = signP l := by
 cases l with
 | nil => rfl
 | cons a r =>
   rw [signP_cons]
   by_cases h1 : sign1 a = true
   · rw [if_pos h1]
     unfold sign1 at h1
     simp only [Bool.or_eq_true, beq_iff_eq, or_assoc] at h1
     rcases h1 with rfl | rfl | rfl | rfl | rfl | rfl | rfl | rfl | rfl | rfl | rfl | rfl <;> simp [sgR, sgB, preA, preB]
   · rw [if_neg h1]
     by_cases h2 : a = 58
     · subst h2
       rw [if_pos rfl]
       cases hb : (r.head? == some 58) <;> simp only [sgR, sgB, List.foldl, preA, preB, hb] <;> simp at hb <;> simp [hb]
     · rw [if_neg h2]
       by_cases h3 : a = 60
       · subst h3
         rw [if_pos rfl]
         cases hb : (r.head? == some 61) <;> simp only [sgR, sgB, List.foldl, preA, preB, hb] <;> simp at hb <;> simp [hb]
       · rw [if_neg h3]
         unfold sign1 at h1
         simp only [Bool.or_eq_true, beq_iff_eq, not_or] at h1
         obtain ⟨⟨⟨⟨⟨⟨⟨⟨⟨⟨⟨n1, n2⟩, n3⟩, n4⟩, n5⟩, n6⟩, n7⟩, n8⟩, n9⟩, n10⟩, n11⟩, n12⟩ := h1
         have e : ∀ x : UInt8, a ≠ x → (x == a) = false := fun x h => by simpa using Ne.symm h
         by_cases h4 : a = 61
         · subst h4; cases hb : (r.head? == some 61) <;> simp only [sgR, sgB, List.foldl, preA, preB, hb] <;> simp at hb <;> simp [hb]
         · by_cases h5 : a = 38
           · subst h5; cases hb : (r.head? == some 38) <;> simp only [sgR, sgB, List.foldl, preA, preB, hb] <;> simp at hb <;> simp [hb]
           · by_cases h6 : a = 124
             · subst h6; cases hb : (r.head? == some 124) <;> simp only [sgR, sgB, List.foldl, preA, preB, hb] <;> simp at hb <;> simp [hb]
             · rw [if_neg (by rintro ⟨h | h | h, _⟩; exact h4 h; exact h5 h; exact h6 h)]
               simp [sgR, sgB, preA, preB, e _ n1, e _ n2, e _ n3, e _ n4, e _ n5, e _ n6, e _ n7, e _ n8, e _ n9, e _ n10, e _ n11, e _ n12, e _ h2, e _ h3, e _ h4, e _ h5, e _ h6]
end Go.Proofs.YtbggbcnfkcadjaaGreatDoor
namespace Go.Proofs.YtbggbcnfkcadjaaGreatDoor
open Go.RowKit
theorem wdV_ok {i j n : Nat} {k : Int} {x : ByteArray} {T : List UInt8} (hx : x = bsOf T) (hj : j = i + n) : Ending.returned (.tuple #[.agg #[.int .i64 k, .string x, .int .i64 i], .int .i64 j, .int .i64 0]) = Ending.returned (wdV i (.ok k T n)) := by
 subst hx hj; rfl
theorem span_take (p : UInt8 → Bool) (l : List UInt8) : l.takeWhile p = l.take (l.takeWhile p).length := List.prefix_iff_eq_take.1 (List.takeWhile_prefix p)
theorem span_slice (p : UInt8 → Bool) (s : ByteArray) {i f j : Nat} (hj : j = i + ((s.toList.drop i).takeWhile p).length) (hf : i ≤ f) (hfj : f ≤ j) : (s.extract f j).toList = ((s.toList.drop i).takeWhile p).drop (f - i) := by
 rw [ByteArray.toList_eq, Lib.extract_data, ← ByteArray.toList_eq, span_take p (s.toList.drop i), List.drop_take, List.drop_drop, show i + (f - i) = f from by omega]
 congr 1; omega
theorem span_get (p : UInt8 → Bool) (s : ByteArray) {i m : Nat} (hm : m < ((s.toList.drop i).takeWhile p).length) : ((s.toList.drop i).takeWhile p)[m]? = s.toList[i + m]? := by
 rw [span_take p (s.toList.drop i), List.getElem?_take, if_pos hm, List.getElem?_drop]
set_option maxRecDepth 100000 in
set_option maxHeartbeats 3200000 in
theorem r2_Word_num (s : ByteArray) (i : Nat) (w : World) (hs : s.size ≤ 140737488351232) (hi : i < s.size) (hd : digitI (s[i].toNat : Int) = true) :
   Calls Tryz.prog 37 #[.string s, .int .i64 i] w (WdPost w i (wordP (s.toList.drop i))) := by
 obtain ⟨q, hq⟩ : ∃ q, wordP (s.toList.drop i) = q := ⟨_, rfl⟩
 rw [hq]
 have hpos : 1 ≤ ((s.toList.drop i).takeWhile digB).length := by rw [toList_drop s i hi]; exact takeWhile_pos hd
 rw [toList_drop s i hi, wordP_num hd, ← toList_drop s i hi] at hq
 unfold numP at hq
 have hrl : runL digitI s i = i + ((s.toList.drop i).takeWhile digB).length := rfl
 have hrle := runL_le digitI s (Nat.le_of_lt hi)
 have HRUN := Lib.hid (fun W => r2_run_digits s i W hs (Nat.le_of_lt hi))
 generalize runL digitI s i = j at hrl hrle HRUN
 have hij : i + 1 ≤ j := by omega
 have HJ := Lib.hid hrl
 have HQ := Lib.hid hq
 clear hq hrl hpos
 go_enter Tryz.func37, Tryz.ntmps37
 go_wp2_with (go_at_call 74; refine (r2_isDigit _ _).mono ?_; rintro e w' ⟨rfl, rfl⟩)
 refine Calls.mono (HRUN.out _) ?_
 rintro r w1 ⟨rfl, rfl⟩
 go_wp2_with fail
 go_loop [9] (fun tt => ∃ f : Nat, i ≤ f ∧ f + 1 ≤ j ∧ tt = .int .i64 f ∧ Hid (∀ x, i ≤ x → x < f → s.toList[x]? = some 48)) (fun tt => j - (intOf tt).toNat)
 case atStart => exact ⟨i, Nat.le_refl _, hij, rfl, fun x h1 h2 => by omega⟩
 case round =>
   obtain ⟨f, hif, hfj, rfl, HZ⟩ := hrel
   have hfs : f < s.size := by omega
   have hgo : (f + 1 = j ∨ ¬ s[f] = 48) → Hid (s.extract f j = bsOf (if ((s.toList.drop i).takeWhile digB).dropWhile (· == 48) = [] then [48] else ((s.toList.drop i).takeWhile digB).dropWhile (· == 48)) ∧ (19 < j - f ↔ 19 < (((s.toList.drop i).takeWhile digB).dropWhile (· == 48)).length)) := fun he => by
     have hJ := HJ.out
     have hl : f - i < ((s.toList.drop i).takeWhile digB).length := by omega
     have hn := num_trim hl (fun m hm => by rw [span_get digB s (by omega)]; exact HZ.out (i + m) (by omega) (by omega)) (by
       rcases he with h | h
       · left; omega
       · right
         rw [span_get digB s hl, show i + (f - i) = f from by omega, toList_get s f hfs]
         intro hh; injection hh with hh; exact h hh)
     refine ⟨bs_eq ?_, ?_⟩
     · rw [span_slice digB s hJ hif (by omega), hn.1]
     · rw [← hn.2]; omega
   by_cases hlt : f + 1 < j
   · by_cases h48 : s[f] = 48
     · have t48 : ((s[f].toNat : Int) == 48) = true := beq_lit h48
       have hfi : (f : Int) < (j : Int) - 1 := by omega
       have HZ2 : Hid (∀ x, i ≤ x → x < f + 1 → s.toList[x]? = some 48) := fun x h1 h2 => by
         rcases Nat.lt_or_ge x f with h | h
         · exact HZ.out x h1 h
         · have : x = f := by omega
           subst this
           rw [toList_get s x hfs, h48]
       clear h48 hgo
       go_wp2_with fail
       go_round
       case rel => exact ⟨f + 1, by omega, by omega, by go_num, HZ2⟩
       case measure => simp [intOf]; omega
     · have t48 : ((s[f].toNat : Int) == 48) = false := bne_lit h48
       have hfi : (f : Int) < (j : Int) - 1 := by omega
       have HG := hgo (.inr h48)
       clear h48 hgo
       by_cases h19 : 19 < j - f
       · have h19' : 19 < (j : Int) - (f : Int) := by omega
         have HR : Hid (q = .bad 4) := by show _ = _; rw [← HQ.out, if_pos (HG.out.2.1 h19)]
         clear h19 HQ HG
         go_wp2_with fail
         refine bodyPost_ret (v := wdV i (.bad 4)) (by simp [results, Tryz.results37, go_sem, wdV]) rfl (WdPost.mk (by rw [HR.out]) (by (repeat (first | assumption | exact Below.refl _ _ | apply Below.drew | apply below_drewN | (refine Below.alloc ?_ (by first | exact Nat.le_refl _ | omega | (simp; done) | (simp; omega)) _)))))
       · have h19' : ¬ 19 < (j : Int) - (f : Int) := by omega
         have HR : Hid (Ending.returned (.tuple #[.agg #[.int .i64 2, .string (s.extract f j), .int .i64 i], .int .i64 j, .int .i64 0]) = Ending.returned (wdV i q)) := by
           show _ = _
           rw [← HQ.out, if_neg (fun h => h19 (HG.out.2.2 h))]; exact wdV_ok HG.out.1 HJ.out
         clear h19 HQ HG
         go_wp2_with fail
         refine bodyPost_ret (v := .tuple #[.agg #[.int .i64 2, .string (s.extract f j), .int .i64 i], .int .i64 j, .int .i64 0]) (by simp [results, Tryz.results37, go_sem]) rfl (WdPost.mk HR.out (by (repeat (first | assumption | exact Below.refl _ _ | apply Below.drew | apply below_drewN | (refine Below.alloc ?_ (by first | exact Nat.le_refl _ | omega | (simp; done) | (simp; omega)) _)))))
   · have hfi : ¬ (f : Int) < (j : Int) - 1 := by omega
     have HG := hgo (.inl (by omega))
     clear hgo
     by_cases h19 : 19 < j - f
     · exfalso; omega
     · have h19' : ¬ 19 < (j : Int) - (f : Int) := by omega
       have HR : Hid (Ending.returned (.tuple #[.agg #[.int .i64 2, .string (s.extract f j), .int .i64 i], .int .i64 j, .int .i64 0]) = Ending.returned (wdV i q)) := by
         show _ = _
         rw [← HQ.out, if_neg (fun h => h19 (HG.out.2.2 h))]; exact wdV_ok HG.out.1 HJ.out
       clear h19 HQ HG
       go_wp2_with fail
       refine bodyPost_ret (v := .tuple #[.agg #[.int .i64 2, .string (s.extract f j), .int .i64 i], .int .i64 j, .int .i64 0]) (by simp [results, Tryz.results37, go_sem]) rfl (WdPost.mk HR.out (by (repeat (first | assumption | exact Below.refl _ _ | apply Below.drew | apply below_drewN | (refine Below.alloc ?_ (by first | exact Nat.le_refl _ | omega | (simp; done) | (simp; omega)) _)))))
end Go.Proofs.YtbggbcnfkcadjaaGreatDoor
namespace Go.Proofs.YtbggbcnfkcadjaaGreatDoor
open Go.RowKit
set_option maxRecDepth 100000 in
set_option maxHeartbeats 3200000 in
theorem r2_Word_name (s : ByteArray) (i : Nat) (w : World) (hs : s.size ≤ 140737488351232) (hi : i < s.size) (hd : digitI (s[i].toNat : Int) = false) (hl : letterI (s[i].toNat : Int) = true) :
   Calls Tryz.prog 37 #[.string s, .int .i64 i] w (WdPost w i (wordP (s.toList.drop i))) := by
 have hq : wordP (s.toList.drop i) = namedP 1 (s.toList.drop i) 0 := by rw [toList_drop s i hi]; exact wordP_name hd hl
 rw [hq]
 have h63 : ((s[i].toNat : Int) == 63) = false := by
   rw [Bool.eq_false_iff]
   intro h
   rw [eq_of_beq h] at hl
   exact absurd hl (by decide)
 have hrl : runL nameI s i = i + ((s.toList.drop i).takeWhile nameB).length := rfl
 have hrle := runL_le nameI s (Nat.le_of_lt hi)
 have hsp : (s.extract i (runL nameI s i)).toList = (s.toList.drop i).takeWhile nameB := runL_span nameI s i
 have hbq : s.extract i (runL nameI s i) = bsOf ((s.toList.drop i).takeWhile nameB) := span_bs nameI s i
 have HRUN := Lib.hid (fun W => r2_run_name s i W hs (Nat.le_of_lt hi))
 have hxs : (s.extract i (runL nameI s i)).size ≤ 140737488351232 := by rw [ByteArray.size_extract]; omega
 have HNF := Lib.hid (fun W => r1_NameFault (s.extract i (runL nameI s i)) W hxs)
 rw [hsp] at HNF
 have hrge := runL_ge nameI s i
 unfold namedP
 generalize runL nameI s i = j at hrl hrle HRUN HNF hbq hrge
 have HBQ := Lib.hid hbq
 have HJ := Lib.hid hrl
 clear hq hsp hbq hrl hxs
 generalize hk : nameErr ((s.toList.drop i).takeWhile nameB) = k at HNF ⊢
 clear hk
 by_cases h0 : k = 0
 · rw [if_pos h0]
   have hv : Hid (Ending.returned (.tuple #[.agg #[.int .i64 1, .string (s.extract i j), .int .i64 i], .int .i64 j, .int .i64 0]) = Ending.returned (wdV i (.ok 1 ((s.toList.drop i).takeWhile nameB) (((s.toList.drop i).takeWhile nameB).length + 0)))) := by
     show _ = _
     exact wdV_ok HBQ.out (by have := HJ.out; omega)
   have hk0 : (k != 0) = false := by simp [h0]
   clear h0
   go_enter Tryz.func37, Tryz.ntmps37
   go_wp2_with (first | (go_at_call 74; refine (r2_isDigit _ _).mono ?_; rintro e w' ⟨rfl, rfl⟩) | (go_at_call 76; refine (r2_isLetter _ _).mono ?_; rintro e w' ⟨rfl, rfl⟩))
   refine Calls.mono (HRUN.out _) ?_
   rintro r w1 ⟨rfl, rfl⟩
   go_wp2_with fail
   refine Calls.mono (HNF.out _) ?_
   rintro r w2 ⟨rfl, rfl⟩
   go_wp2_with fail
   refine bodyPost_ret (v := .tuple #[.agg #[.int .i64 1, .string (s.extract i j), .int .i64 i], .int .i64 j, .int .i64 0]) (by simp [results, Tryz.results37, go_sem]) rfl (WdPost.mk hv.out (by (repeat (first | assumption | exact Below.refl _ _ | apply Below.drew | apply below_drewN | (refine Below.alloc ?_ (by first | exact Nat.le_refl _ | omega | (simp; done) | (simp; omega)) _)))))
 · rw [if_neg h0]
   have hk0 : (k != 0) = true := by simp [h0]
   clear h0
   go_enter Tryz.func37, Tryz.ntmps37
   go_wp2_with (first | (go_at_call 74; refine (r2_isDigit _ _).mono ?_; rintro e w' ⟨rfl, rfl⟩) | (go_at_call 76; refine (r2_isLetter _ _).mono ?_; rintro e w' ⟨rfl, rfl⟩))
   refine Calls.mono (HRUN.out _) ?_
   rintro r w1 ⟨rfl, rfl⟩
   go_wp2_with fail
   refine Calls.mono (HNF.out _) ?_
   rintro r w2 ⟨rfl, rfl⟩
   go_wp2_with fail
   refine bodyPost_ret (v := wdV i (.bad k)) (by simp [results, Tryz.results37, go_sem, wdV]) rfl (WdPost.mk rfl (by (repeat (first | assumption | exact Below.refl _ _ | apply Below.drew | apply below_drewN | (refine Below.alloc ?_ (by first | exact Nat.le_refl _ | omega | (simp; done) | (simp; omega)) _)))))
set_option maxRecDepth 100000 in
set_option maxHeartbeats 3200000 in
theorem r2_Word_slot (s : ByteArray) (i : Nat) (w : World) (hs : s.size ≤ 140737488351232) (hi : i < s.size) (hd : digitI (s[i].toNat : Int) = false) (hl : letterI (s[i].toNat : Int) = false) (h34 : ¬ s[i] = 34) (h63' : s[i] = 63) :
   Calls Tryz.prog 37 #[.string s, .int .i64 i] w (WdPost w i (wordP (s.toList.drop i))) := by
 have hq : wordP (s.toList.drop i) = namedP 4 (s.toList.drop (i + 1)) 1 := by rw [toList_drop s i hi]; exact wordP_slot hd hl h34 h63'
 rw [hq]
 have h63 : ((s[i].toNat : Int) == 63) = true := beq_lit h63'
 clear h34 h63'
 have hrl : runL nameI s (i + 1) = i + 1 + ((s.toList.drop (i + 1)).takeWhile nameB).length := rfl
 have hrle := runL_le nameI s (show i + 1 ≤ s.size from hi)
 have hsp : (s.extract (i + 1) (runL nameI s (i + 1))).toList = (s.toList.drop (i + 1)).takeWhile nameB := runL_span nameI s (i + 1)
 have hbq : s.extract (i + 1) (runL nameI s (i + 1)) = bsOf ((s.toList.drop (i + 1)).takeWhile nameB) := span_bs nameI s (i + 1)
 have HRUN := Lib.hid (fun W => r2_run_name s (i + 1) W hs hi)
 have hxs : (s.extract (i + 1) (runL nameI s (i + 1))).size ≤ 140737488351232 := by rw [ByteArray.size_extract]; omega
 have HNF := Lib.hid (fun W => r1_NameFault (s.extract (i + 1) (runL nameI s (i + 1))) W hxs)
 rw [hsp] at HNF
 have hrge := runL_ge nameI s (i + 1)
 unfold namedP
 generalize runL nameI s (i + 1) = j at hrl hrle HRUN HNF hbq hrge
 have HBQ := Lib.hid hbq
 have HJ := Lib.hid hrl
 clear hq hsp hbq hrl hxs
 generalize hk : nameErr ((s.toList.drop (i + 1)).takeWhile nameB) = k at HNF ⊢
 clear hk
 by_cases h0 : k = 0
 · rw [if_pos h0]
   have hv : Hid (Ending.returned (.tuple #[.agg #[.int .i64 4, .string (s.extract (i + 1) j), .int .i64 i], .int .i64 j, .int .i64 0]) = Ending.returned (wdV i (.ok 4 ((s.toList.drop (i + 1)).takeWhile nameB) (((s.toList.drop (i + 1)).takeWhile nameB).length + 1)))) := by
     show _ = _
     exact wdV_ok HBQ.out (by have := HJ.out; omega)
   have hk0 : (k != 0) = false := by simp [h0]
   clear h0
   go_enter Tryz.func37, Tryz.ntmps37
   go_wp2_with (first | (go_at_call 74; refine (r2_isDigit _ _).mono ?_; rintro e w' ⟨rfl, rfl⟩) | (go_at_call 76; refine (r2_isLetter _ _).mono ?_; rintro e w' ⟨rfl, rfl⟩))
   refine Calls.mono (HRUN.out _) ?_
   rintro r w1 ⟨rfl, rfl⟩
   go_wp2_with fail
   refine Calls.mono (HNF.out _) ?_
   rintro r w2 ⟨rfl, rfl⟩
   go_wp2_with fail
   refine bodyPost_ret (v := .tuple #[.agg #[.int .i64 4, .string (s.extract (i + 1) j), .int .i64 i], .int .i64 j, .int .i64 0]) (by simp [results, Tryz.results37, go_sem]) rfl (WdPost.mk hv.out (by (repeat (first | assumption | exact Below.refl _ _ | apply Below.drew | apply below_drewN | (refine Below.alloc ?_ (by first | exact Nat.le_refl _ | omega | (simp; done) | (simp; omega)) _)))))
 · rw [if_neg h0]
   have hk0 : (k != 0) = true := by simp [h0]
   clear h0
   go_enter Tryz.func37, Tryz.ntmps37
   go_wp2_with (first | (go_at_call 74; refine (r2_isDigit _ _).mono ?_; rintro e w' ⟨rfl, rfl⟩) | (go_at_call 76; refine (r2_isLetter _ _).mono ?_; rintro e w' ⟨rfl, rfl⟩))
   refine Calls.mono (HRUN.out _) ?_
   rintro r w1 ⟨rfl, rfl⟩
   go_wp2_with fail
   refine Calls.mono (HNF.out _) ?_
   rintro r w2 ⟨rfl, rfl⟩
   go_wp2_with fail
   refine bodyPost_ret (v := wdV i (.bad k)) (by simp [results, Tryz.results37, go_sem, wdV]) rfl (WdPost.mk rfl (by (repeat (first | assumption | exact Below.refl _ _ | apply Below.drew | apply below_drewN | (refine Below.alloc ?_ (by first | exact Nat.le_refl _ | omega | (simp; done) | (simp; omega)) _)))))
set_option maxRecDepth 100000 in
set_option maxHeartbeats 3200000 in
theorem r2_Word_quo (s : ByteArray) (i : Nat) (w : World) (hs : s.size ≤ 140737488351232) (hi : i < s.size) (hd : digitI (s[i].toNat : Int) = false) (hl : letterI (s[i].toNat : Int) = false) (h34' : s[i] = 34) :
   Calls Tryz.prog 37 #[.string s, .int .i64 i] w (WdPost w i (wordP (s.toList.drop i))) := by
 have hq : wordP (s.toList.drop i) = quoP (s.toList.drop (i + 1)) [] 1 := by rw [toList_drop s i hi]; exact wordP_quo hd hl h34'
 rw [hq]
 have h34 : ((s[i].toNat : Int) == 34) = true := beq_lit h34'
 have h63 : ((s[i].toNat : Int) == 63) = false := by rw [h34']; rfl
 have HQ := Lib.hid (fun W => r2_quoted s i W hs hi)
 clear hq h34'
 cases hqq : quoP (s.toList.drop (i + 1)) [] 1 with
 | bad k =>
   rw [hqq] at HQ
   clear hqq
   go_enter Tryz.func37, Tryz.ntmps37
   go_wp2_with (first | (go_at_call 74; refine (r2_isDigit _ _).mono ?_; rintro e w' ⟨rfl, rfl⟩) | (go_at_call 76; refine (r2_isLetter _ _).mono ?_; rintro e w' ⟨rfl, rfl⟩))
   refine Calls.mono (HQ.out _) ?_
   rintro r w2 ⟨he, hb2⟩
   have he : r = .returned (.tuple #[.agg #[.int .i64 0, .string ⟨#[]⟩, .int .i64 0], .int .i64 0, .int .i64 k]) := he
   subst he
   have hz : w.heap.size < w2.heap.size := by have := hb2.size; simp at this; omega
   have hbk : Blk w2 w.heap.size 42 #[.int .i64 0, .string ⟨#[]⟩, .int .i64 0] := (Blk.new w 42 _).below hb2 (by simp)
   have hk := hbk.cell
   have hf := hbk.frozen
   have hw2 : Below w.heap.size w w2 := ((Below.refl _ _).alloc (Nat.le_refl _) _).trans (hb2.mono (by simp))
   clear hb2
   go_wp2_with fail
   refine bodyPost_ret (v := wdV i (.bad k)) (by simp [results, Tryz.results37, go_sem, wdV, hk]) rfl (WdPost.mk rfl (((hw2.setCell (p := ⟨w.heap.size, 0, none⟩) (Nat.le_refl _) _).setCell (p := ⟨w.heap.size, 1, none⟩) (Nat.le_refl _) _).setCell (p := ⟨w.heap.size, 2, none⟩) (Nat.le_refl _) _))
 | ok kind t n =>
   rw [hqq] at HQ
   clear hqq
   go_enter Tryz.func37, Tryz.ntmps37
   go_wp2_with (first | (go_at_call 74; refine (r2_isDigit _ _).mono ?_; rintro e w' ⟨rfl, rfl⟩) | (go_at_call 76; refine (r2_isLetter _ _).mono ?_; rintro e w' ⟨rfl, rfl⟩))
   refine Calls.mono (HQ.out _) ?_
   rintro r w2 ⟨he, hb2⟩
   have he : r = .returned (.tuple #[.agg #[.int .i64 kind, .string (bsOf t), .int .i64 i], .int .i64 ((i : Int) + n), .int .i64 0]) := he
   subst he
   have hz : w.heap.size < w2.heap.size := by have := hb2.size; simp at this; omega
   have hbk : Blk w2 w.heap.size 42 #[.int .i64 0, .string ⟨#[]⟩, .int .i64 0] := (Blk.new w 42 _).below hb2 (by simp)
   have hk := hbk.cell
   have hf := hbk.frozen
   have hw2 : Below w.heap.size w w2 := ((Below.refl _ _).alloc (Nat.le_refl _) _).trans (hb2.mono (by simp))
   clear hb2
   go_wp2_with fail
   refine bodyPost_ret (v := .tuple #[.agg #[.int .i64 kind, .string (bsOf t), .int .i64 i], .int .i64 ((i : Int) + n), .int .i64 0]) (by simp [results, Tryz.results37, go_sem, hk]) rfl (WdPost.mk rfl (((hw2.setCell (p := ⟨w.heap.size, 0, none⟩) (Nat.le_refl _) _).setCell (p := ⟨w.heap.size, 1, none⟩) (Nat.le_refl _) _).setCell (p := ⟨w.heap.size, 2, none⟩) (Nat.le_refl _) _))
end Go.Proofs.YtbggbcnfkcadjaaGreatDoor
namespace Go.Proofs.YtbggbcnfkcadjaaGreatDoor
open Go.RowKit
theorem sgx (k : Nat) (hk : k < 19) : ∃ (x2 : ByteArray) (c : UInt8) (x : List UInt8), ByteArray.extract ⟨#[40, 32, 32, 41, 32, 32, 91, 32, 32, 93, 32, 32, 123, 32, 32, 125, 32, 32, 44, 32, 32, 58, 32, 32, 46, 32, 32, 58, 58, 32, 61, 61, 32, 60, 32, 32, 60, 61, 32, 38, 38, 32, 124, 124, 32, 33, 32, 32, 43, 32, 32, 45, 32, 32, 42, 32, 32]⟩ (3 * k) (3 * k + 2) = x2 ∧ x2.size = 2 ∧ x2.toList[1]? = some c ∧ sgR[k]? = some x ∧ (c = 32 → x2.extract 0 1 = bsOf x) ∧ (c ≠ 32 → x2 = bsOf x) := by
 have key : ∀ (a b : UInt8), (⟨#[a, b]⟩ : ByteArray).toList[1]? = some b := fun a b => by rw [ByteArray.toList_mk]; rfl
 match k, hk with
 | 0, _ => exact ⟨⟨#[40, 32]⟩, 32, [40], rfl, rfl, key _ _, rfl, fun _ => rfl, fun h => absurd rfl h⟩
 | 1, _ => exact ⟨⟨#[41, 32]⟩, 32, [41], rfl, rfl, key _ _, rfl, fun _ => rfl, fun h => absurd rfl h⟩
 | 2, _ => exact ⟨⟨#[91, 32]⟩, 32, [91], rfl, rfl, key _ _, rfl, fun _ => rfl, fun h => absurd rfl h⟩
 | 3, _ => exact ⟨⟨#[93, 32]⟩, 32, [93], rfl, rfl, key _ _, rfl, fun _ => rfl, fun h => absurd rfl h⟩
 | 4, _ => exact ⟨⟨#[123, 32]⟩, 32, [123], rfl, rfl, key _ _, rfl, fun _ => rfl, fun h => absurd rfl h⟩
 | 5, _ => exact ⟨⟨#[125, 32]⟩, 32, [125], rfl, rfl, key _ _, rfl, fun _ => rfl, fun h => absurd rfl h⟩
 | 6, _ => exact ⟨⟨#[44, 32]⟩, 32, [44], rfl, rfl, key _ _, rfl, fun _ => rfl, fun h => absurd rfl h⟩
 | 7, _ => exact ⟨⟨#[58, 32]⟩, 32, [58], rfl, rfl, key _ _, rfl, fun _ => rfl, fun h => absurd rfl h⟩
 | 8, _ => exact ⟨⟨#[46, 32]⟩, 32, [46], rfl, rfl, key _ _, rfl, fun _ => rfl, fun h => absurd rfl h⟩
 | 9, _ => exact ⟨⟨#[58, 58]⟩, 58, [58, 58], rfl, rfl, key _ _, rfl, fun h => absurd h (by decide), fun _ => rfl⟩
 | 10, _ => exact ⟨⟨#[61, 61]⟩, 61, [61, 61], rfl, rfl, key _ _, rfl, fun h => absurd h (by decide), fun _ => rfl⟩
 | 11, _ => exact ⟨⟨#[60, 32]⟩, 32, [60], rfl, rfl, key _ _, rfl, fun _ => rfl, fun h => absurd rfl h⟩
 | 12, _ => exact ⟨⟨#[60, 61]⟩, 61, [60, 61], rfl, rfl, key _ _, rfl, fun h => absurd h (by decide), fun _ => rfl⟩
 | 13, _ => exact ⟨⟨#[38, 38]⟩, 38, [38, 38], rfl, rfl, key _ _, rfl, fun h => absurd h (by decide), fun _ => rfl⟩
 | 14, _ => exact ⟨⟨#[124, 124]⟩, 124, [124, 124], rfl, rfl, key _ _, rfl, fun h => absurd h (by decide), fun _ => rfl⟩
 | 15, _ => exact ⟨⟨#[33, 32]⟩, 32, [33], rfl, rfl, key _ _, rfl, fun _ => rfl, fun h => absurd rfl h⟩
 | 16, _ => exact ⟨⟨#[43, 32]⟩, 32, [43], rfl, rfl, key _ _, rfl, fun _ => rfl, fun h => absurd rfl h⟩
 | 17, _ => exact ⟨⟨#[45, 32]⟩, 32, [45], rfl, rfl, key _ _, rfl, fun _ => rfl, fun h => absurd rfl h⟩
 | 18, _ => exact ⟨⟨#[42, 32]⟩, 32, [42], rfl, rfl, key _ _, rfl, fun _ => rfl, fun h => absurd rfl h⟩
 | k + 19, h => omega
set_option maxRecDepth 100000 in
set_option maxHeartbeats 6400000 in
theorem r2_Word_sign (s : ByteArray) (i : Nat) (w : World) (hs : s.size ≤ 140737488351232) (hi : i < s.size) (hd : digitI (s[i].toNat : Int) = false) (hl : letterI (s[i].toNat : Int) = false) (h34' : ¬ s[i] = 34) (h63' : ¬ s[i] = 63) :
   Calls Tryz.prog 37 #[.string s, .int .i64 i] w (WdPost w i (wordP (s.toList.drop i))) := by
 have hq : wordP (s.toList.drop i) = if signP (s.toList.drop i) = [] then .bad 1 else .ok 5 (signP (s.toList.drop i)) (signP (s.toList.drop i)).length := by rw [toList_drop s i hi]; exact wordP_sign hd hl h34' h63'
 rw [hq]
 have h34 : ((s[i].toNat : Int) == 34) = false := bne_lit h34'
 have h63 : ((s[i].toNat : Int) == 63) = false := bne_lit h63'
 have HALL := Lib.hid (sgR_all (s.toList.drop i))
 have HBG := Lib.hid (fun x W (hx : x.size ≤ 140737488351232) => r2_begins s i x W hs (Nat.le_of_lt hi) hx)
 clear hq h34' h63'
 generalize s.toList.drop i = l at HALL HBG ⊢
 generalize signP l = L at HALL ⊢
 obtain ⟨q, hq⟩ : ∃ q, (if L = [] then Wd.bad 1 else .ok 5 L L.length) = q := ⟨_, rfl⟩
 rw [hq]
 have HQ := Lib.hid hq
 clear hq
 go_enter Tryz.func37, Tryz.ntmps37
 go_wp2_with (first | (go_at_call 74; refine (r2_isDigit _ _).mono ?_; rintro e w' ⟨rfl, rfl⟩) | (go_at_call 76; refine (r2_isLetter _ _).mono ?_; rintro e w' ⟨rfl, rfl⟩))
 go_loopw [15, 16] (fun ff ii wr => ∃ k j : Nat, ∃ fb : ByteArray, k ≤ 19 ∧ Hid (j = 3 * k) ∧ ii = .int .i64 j ∧ ff = .string fb ∧ fb.size ≤ 2 ∧ Hid (fb = bsOf ((sgR.take k).foldl (sgB l) [])) ∧ Hid (Blk wr w.heap.size 42 #[.int .i64 0, .string ⟨#[]⟩, .int .i64 0]) ∧ Below w.heap.size w wr) (fun _ ii _ => 60 - (intOf ii).toNat)
 case atStart => exact ⟨0, 0, ⟨#[]⟩, by omega, rfl, rfl, rfl, by decide, rfl, Blk.new w _ _, by (repeat (first | assumption | exact Below.refl _ _ | apply Below.drew | apply below_drewN | (refine Below.alloc ?_ (by first | exact Nat.le_refl _ | omega | (simp; done) | (simp; omega)) _)))⟩
 case round =>
   obtain ⟨k, j, fb, hk, HJ, rfl, rfl, hfb, HF, HT, hbr⟩ := hrel
   by_cases hlt : k < 19
   · obtain ⟨x2, c, x, hx2, hx2s, hc, hx, h32, hn32⟩ := sgx k hlt
     have hj57 : j + 3 ≤ 57 := by have := HJ.out; omega
     rw [← HJ.out] at hx2
     have HX := Lib.hid hx
     have HXL : Hid (x.length ≤ 2) := by
       have h1 : ∀ y ∈ sgR, y.length ≤ 2 := by decide
       exact h1 x (List.mem_of_getElem? hx)
     have hsl1 : ∀ W : World, (Instr.slice 9 (.string ⟨#[40, 32, 32, 41, 32, 32, 91, 32, 32, 93, 32, 32, 123, 32, 32, 125, 32, 32, 44, 32, 32, 58, 32, 32, 46, 32, 32, 58, 58, 32, 61, 61, 32, 60, 32, 32, 60, 61, 32, 38, 38, 32, 124, 124, 32, 33, 32, 32, 43, 32, 32, 45, 32, 32, 42, 32, 32]⟩) (some (.int .i64 (j : Int))) (some (.int .i64 ((j : Int) + 2))) none).run Tryz.prog W = .ok (.string x2) W := fun W => by
       rw [← hx2]
       have h57 : (⟨#[40, 32, 32, 41, 32, 32, 91, 32, 32, 93, 32, 32, 123, 32, 32, 125, 32, 32, 44, 32, 32, 58, 32, 32, 46, 32, 32, 58, 58, 32, 61, 61, 32, 60, 32, 32, 60, 61, 32, 38, 38, 32, 124, 124, 32, 33, 32, 32, 43, 32, 32, 45, 32, 32, 42, 32, 32]⟩ : ByteArray).size = 57 := rfl
       have e1 : (j : Int).toNat = j := rfl
       have e2 : ((j : Int) + 2).toNat = j + 2 := by omega
       rw [run_slice_string_if W 9 _ .i64 .i64 (j : Int) ((j : Int) + 2) Tryz.underlying9, if_pos (by omega), if_pos (by omega), e1, e2]
     have hix : ∀ W, (Instr.index 9 (.string x2) (.int .i64 1)).run Tryz.prog W = .ok (.int .u8 (c.toNat : Int)) W := fun W => by
       have h1 := run_index_str x2 1 (by omega) W
       have h2 := toList_get x2 1 (by omega)
       rw [hc] at h2
       injection h2 with h2
       rw [← h2] at h1
       exact h1
     have hsl2 : ∀ W : World, (Instr.slice 9 (.string x2) none (some (.int .i64 1)) none).run Tryz.prog W = .ok (.string (x2.extract 0 1)) W := fun W => by
       go_simp
     clear hx2 hx hc
     by_cases hc32 : c = 32
     · have t32 : ((c.toNat : Int) == 32) = true := beq_lit hc32
       have h32 := h32 hc32
       clear hc32 hn32
       obtain ⟨xb, hxb⟩ : ∃ xb, x2.extract 0 1 = xb := ⟨_, rfl⟩
       rw [hxb] at hsl2 h32
       clear hxb
       have hxl : Hid (xb.toList = x) := by show _ = _; rw [h32, ByteArray.toList_eq]; rfl
       clear h32 hx2s
       have hxs : xb.size = x.length := by rw [← toList_len, hxl.out]
       have hxz : xb.size ≤ 140737488351232 := by have := HXL.out; omega
       have HB := Lib.hid (fun W => HBG.out xb W hxz)
       rw [hxl.out] at HB
       have hstep := sgR_step HX.out l
       rw [← show fb.toList = (sgR.take k).foldl (sgB l) [] from by rw [HF.out, ByteArray.toList_eq]; rfl] at hstep
       unfold sgB at hstep
       rw [toList_len] at hstep
       by_cases hp : x.isPrefixOf l = true
       · rw [hp] at HB
         by_cases hlen : fb.size < x.length
         · rw [if_pos ⟨hp, hlen⟩] at hstep
           have hlen' : (fb.size : Int) < xb.size := by omega
           have HF2 : Hid (xb = bsOf ((sgR.take (k + 1)).foldl (sgB l) [])) := by show _ = _; unfold sgB; rw [hstep]; exact bs_eq hxl.out
           have hx2l : xb.size ≤ 2 := by have := HXL.out; omega
           clear hstep hp hlen hxs
           go_wp2_with fail
           refine Calls.mono (HB.out _) ?_
           rintro r w2 ⟨rfl, hb2⟩
           go_wp2_with fail
           exact ⟨⟨k + 1, j + 3, _, by omega, by have := HJ.out; show _ = _; omega, by go_num, rfl, hx2l, HF2, Lib.hid (HT.out.below hb2 HT.out.lt), hbr.trans (hb2.mono hbr.size)⟩, by simp [intOf]; omega⟩
         · rw [if_neg (fun h => hlen h.2)] at hstep
           have hlen' : ¬ (fb.size : Int) < xb.size := by omega
           have HF2 : Hid (fb = bsOf ((sgR.take (k + 1)).foldl (sgB l) [])) := by show _ = _; unfold sgB; rw [hstep]; exact bs_eq rfl
           clear hstep hp hlen hxs
           go_wp2_with fail
           refine Calls.mono (HB.out _) ?_
           rintro r w2 ⟨rfl, hb2⟩
           go_wp2_with fail
           exact ⟨⟨k + 1, j + 3, _, by omega, by have := HJ.out; show _ = _; omega, by go_num, rfl, hfb, HF2, Lib.hid (HT.out.below hb2 HT.out.lt), hbr.trans (hb2.mono hbr.size)⟩, by simp [intOf]; omega⟩
       · have hp0 : x.isPrefixOf l = false := Bool.eq_false_iff.2 hp
         rw [hp0] at HB
         rw [if_neg (fun h => hp h.1)] at hstep
         have HF2 : Hid (fb = bsOf ((sgR.take (k + 1)).foldl (sgB l) [])) := by show _ = _; unfold sgB; rw [hstep]; exact bs_eq rfl
         clear hstep hp hp0 hxs
         go_wp2_with fail
         refine Calls.mono (HB.out _) ?_
         rintro r w2 ⟨rfl, hb2⟩
         go_wp2_with fail
         exact ⟨⟨k + 1, j + 3, _, by omega, by have := HJ.out; show _ = _; omega, by go_num, rfl, hfb, HF2, Lib.hid (HT.out.below hb2 HT.out.lt), hbr.trans (hb2.mono hbr.size)⟩, by simp [intOf]; omega⟩
     · have t32 : ((c.toNat : Int) == 32) = false := bne_lit hc32
       have hn32 := hn32 hc32
       clear hc32 h32
       have hxl : Hid (x2.toList = x) := by show _ = _; rw [hn32, ByteArray.toList_eq]; rfl
       clear hn32 hx2s
       have hxs : x2.size = x.length := by rw [← toList_len, hxl.out]
       have hxz : x2.size ≤ 140737488351232 := by have := HXL.out; omega
       have HB := Lib.hid (fun W => HBG.out x2 W hxz)
       rw [hxl.out] at HB
       have hstep := sgR_step HX.out l
       rw [← show fb.toList = (sgR.take k).foldl (sgB l) [] from by rw [HF.out, ByteArray.toList_eq]; rfl] at hstep
       unfold sgB at hstep
       rw [toList_len] at hstep
       by_cases hp : x.isPrefixOf l = true
       · rw [hp] at HB
         by_cases hlen : fb.size < x.length
         · rw [if_pos ⟨hp, hlen⟩] at hstep
           have hlen' : (fb.size : Int) < x2.size := by omega
           have HF2 : Hid (x2 = bsOf ((sgR.take (k + 1)).foldl (sgB l) [])) := by show _ = _; unfold sgB; rw [hstep]; exact bs_eq hxl.out
           have hx2l : x2.size ≤ 2 := by have := HXL.out; omega
           clear hstep hp hlen hxs
           go_wp2_with fail
           refine Calls.mono (HB.out _) ?_
           rintro r w2 ⟨rfl, hb2⟩
           go_wp2_with fail
           exact ⟨⟨k + 1, j + 3, _, by omega, by have := HJ.out; show _ = _; omega, by go_num, rfl, hx2l, HF2, Lib.hid (HT.out.below hb2 HT.out.lt), hbr.trans (hb2.mono hbr.size)⟩, by simp [intOf]; omega⟩
         · rw [if_neg (fun h => hlen h.2)] at hstep
           have hlen' : ¬ (fb.size : Int) < x2.size := by omega
           have HF2 : Hid (fb = bsOf ((sgR.take (k + 1)).foldl (sgB l) [])) := by show _ = _; unfold sgB; rw [hstep]; exact bs_eq rfl
           clear hstep hp hlen hxs
           go_wp2_with fail
           refine Calls.mono (HB.out _) ?_
           rintro r w2 ⟨rfl, hb2⟩
           go_wp2_with fail
           exact ⟨⟨k + 1, j + 3, _, by omega, by have := HJ.out; show _ = _; omega, by go_num, rfl, hfb, HF2, Lib.hid (HT.out.below hb2 HT.out.lt), hbr.trans (hb2.mono hbr.size)⟩, by simp [intOf]; omega⟩
       · have hp0 : x.isPrefixOf l = false := Bool.eq_false_iff.2 hp
         rw [hp0] at HB
         rw [if_neg (fun h => hp h.1)] at hstep
         have HF2 : Hid (fb = bsOf ((sgR.take (k + 1)).foldl (sgB l) [])) := by show _ = _; unfold sgB; rw [hstep]; exact bs_eq rfl
         clear hstep hp hp0 hxs
         go_wp2_with fail
         refine Calls.mono (HB.out _) ?_
         rintro r w2 ⟨rfl, hb2⟩
         go_wp2_with fail
         exact ⟨⟨k + 1, j + 3, _, by omega, by have := HJ.out; show _ = _; omega, by go_num, rfl, hfb, HF2, Lib.hid (HT.out.below hb2 HT.out.lt), hbr.trans (hb2.mono hbr.size)⟩, by simp [intOf]; omega⟩
   · have hk19 : k = 19 := by omega
     subst hk19
     have hj : j = 57 := by have := HJ.out; omega
     have hjlt : ¬ (j : Int) < 57 := by omega
     have hFL : fb = bsOf L := by rw [HF.out, show sgR.take 19 = sgR from rfl, HALL.out]
     have hbs : fb.size = L.length := by rw [hFL]; rfl
     have hbt : fb.toList = L := by rw [hFL, ByteArray.toList_eq]; rfl
     have hk0 := HT.out.cell
     have hf0 := HT.out.frozen
     have hl0 := HT.out.lt
     by_cases he : L = []
     · have HR : Hid (q = .bad 1) := by show _ = _; rw [← HQ.out, if_pos he]
       have hem : fb.toList.isEmpty = true := by rw [hbt, he]; rfl
       clear hFL hbs hbt he hj
       go_wp2_with fail
       refine bodyPost_ret (v := wdV i (.bad 1)) (by simp [results, Tryz.results37, go_sem, wdV, hk0]) rfl (WdPost.mk (by rw [HR.out]) (((hbr.setCell (p := ⟨w.heap.size, 0, none⟩) (Nat.le_refl _) _).setCell (p := ⟨w.heap.size, 1, none⟩) (Nat.le_refl _) _).setCell (p := ⟨w.heap.size, 2, none⟩) (Nat.le_refl _) _))
     · have HR : Hid (q = .ok 5 L L.length) := by show _ = _; rw [← HQ.out, if_neg he]
       have hem : fb.toList.isEmpty = false := by rw [hbt]; cases L with | nil => exact absurd rfl he | cons => rfl
       have HV : Hid (Ending.returned (.tuple #[.agg #[.int .i64 5, .string fb, .int .i64 i], .int .i64 ((i : Int) + (fb.size : Int)), .int .i64 0]) = Ending.returned (wdV i q)) := by
         show _ = _
         rw [HR.out]
         have := wdV_ok (i := i) (j := i + fb.size) (k := 5) hFL (by rw [hbs])
         exact this
       clear hFL hbs hbt he hj
       go_wp2_with fail
       refine bodyPost_ret (v := .tuple #[.agg #[.int .i64 5, .string fb, .int .i64 i], .int .i64 ((i : Int) + (fb.size : Int)), .int .i64 0]) (by simp [results, Tryz.results37, go_sem, hk0]) rfl (WdPost.mk HV.out (((hbr.setCell (p := ⟨w.heap.size, 0, none⟩) (Nat.le_refl _) _).setCell (p := ⟨w.heap.size, 1, none⟩) (Nat.le_refl _) _).setCell (p := ⟨w.heap.size, 2, none⟩) (Nat.le_refl _) _))
theorem r2_Word (s : ByteArray) (i : Nat) (w : World) (hs : s.size ≤ 140737488351232) (hi : i < s.size) :
   Calls Tryz.prog 37 #[.string s, .int .i64 i] w (WdPost w i (wordP (s.toList.drop i))) := by
 by_cases hd : digitI (s[i].toNat : Int) = true
 · exact r2_Word_num s i w hs hi hd
 · have hd : digitI (s[i].toNat : Int) = false := by simpa using hd
   by_cases hl : letterI (s[i].toNat : Int) = true
   · exact r2_Word_name s i w hs hi hd hl
   · have hl : letterI (s[i].toNat : Int) = false := by simpa using hl
     by_cases h34 : s[i] = 34
     · exact r2_Word_quo s i w hs hi hd hl h34
     · by_cases h63 : s[i] = 63
       · exact r2_Word_slot s i w hs hi hd hl h34 h63
       · exact r2_Word_sign s i w hs hi hd hl h34 h63
end Go.Proofs.YtbggbcnfkcadjaaGreatDoor
namespace Go.Proofs.YtbggbcnfkcadjaaGreatDoor
open Go.RowKit
def ToksNum (w : World) (r : Ending) (w' : World) (q : List Tk × Nat × Int) : Prop :=
 ∃ A c, r = .returned (.tuple #[.slice A q.1.length c, .int .i64 q.2.1, .int .i64 q.2.2]) ∧ q.1.length ≤ c ∧ c ≤ 9223372036854775807 ∧ TkSl w' w'.heap.size A q.1 ∧ Below w.heap.size w w'
theorem ToksNum.none {w w' : World} {i : Nat} {k : Int} (h : Below w.heap.size w w') : ToksNum w (.returned (.tuple #[.slice none 0 0, .int .i64 i, .int .i64 k])) w' ([], i, k) := ⟨Option.none, 0, rfl, Nat.le_refl _, by omega, SlG.nil _ _ _, h⟩
set_option maxRecDepth 100000 in
set_option maxHeartbeats 6400000 in
theorem r2_Words (s : ByteArray) (w : World) (hs : s.size ≤ 140737488351232) :
   Calls Tryz.prog 23 #[.string s] w fun r w' => ToksNum w r w' (readP s) := by
 obtain ⟨i0, hi, hz0, hz1, hz2⟩ := info_parts tok_info
 by_cases h : 900 < s.size
 · have hv : readP s = ([], 0, 4) := by simp [readP, h]
   rw [hv]
   have h9 : 900 < (s.size : Int) := by omega
   clear hv h
   go_enter Tryz.func23, Tryz.ntmps23
   go_wp2_with fail
   go_ret3
   exact ToksNum.none (k := 4) (Below.refl _ _)
 · obtain ⟨q, hq⟩ : ∃ q, readP s = q := ⟨_, rfl⟩
   rw [hq]
   rw [readP_R, if_neg h] at hq
   have HQ := Lib.hid hq
   clear hq
   have h9 : ¬ 900 < (s.size : Int) := by omega
   go_enter Tryz.func23, Tryz.ntmps23
   go_wp2_with fail
   go_loopw [5, 6] (fun oo ii wr => ∃ p : Nat, ∃ toks : List Tk, ∃ A c, oo = .slice A toks.length c ∧ ii = .int .i64 p ∧ p ≤ s.size ∧ toks.length ≤ 300 ∧ Hid (lineR (s.toList.drop p) p toks = q) ∧
     Hid (wr.ownsRow w.heap.size 42 3 (.slice A toks.length c) toks.length (flatG Tk.cells toks)) ∧ Below w.heap.size w wr) (fun _ ii _ => s.size - (intOf ii).toNat)
   case atStart => exact ⟨0, [], none, 0, rfl, rfl, by omega, by simp, HQ.out, World.ownsRow_nil _ _ _ _, Below.refl _ _⟩
   case round =>
     obtain ⟨p, toks, A, c, rfl, rfl, hp, htl, HP, HO, hbr⟩ := hrel
     have hzr := hbr.size
     by_cases hlt : p < s.size
     · have hsd := toList_drop s p hlt
       by_cases h32 : s[p] = 32
       · have t32 : ((s[p].toNat : Int) == 32) = true := beq_lit h32
         have HP2 : Hid (lineR (s.toList.drop (p + 1)) (p + 1) toks = q) := by
           show _ = _
           rw [← HP.out, hsd, h32, lineR_blank]
         clear h32 hsd HP
         go_wp2_with fail
         exact ⟨⟨p + 1, toks, A, c, rfl, by go_num, by omega, htl, HP2, HO, hbr⟩, by simp [intOf]; omega⟩
       · have t32 : ((s[p].toNat : Int) == 32) = false := bne_lit h32
         have HWW := Lib.hid (fun W => r2_Word s p W hs hlt)
         cases hw : wordP (s.toList.drop p) with
         | bad k =>
           have HR : Hid (q = ([], p, k)) := by
             show _ = _
             rw [← HP.out, hsd]
             rw [hsd] at hw
             exact lineR_bad h32 hw _ _
           have hk : ¬ k = 0 := fun e => wordP_ne0 (e ▸ hw)
           have hk1 : (k == 0) = false := by simp [hk]
           have hk2 : (k != 0) = true := by simp [hk]
           rw [hw] at HWW
           clear hw hk h32 hsd HP
           go_wp2_with fail
           refine Calls.mono (HWW.out _) ?_
           rintro r w2 ⟨he, hb2⟩
           have he : r = .returned (.tuple #[.agg #[.int .i64 0, .string ⟨#[]⟩, .int .i64 0], .int .i64 0, .int .i64 k]) := he
           subst he
           go_wp2_with fail
           go_ret3
           rw [HR.out]
           exact ToksNum.none ((hbr.trans (hb2.mono hzr)).alloc (by have := hb2.size; omega) _)
         | ok kind t n =>
           have hn := wordP_n hw
           rw [List.length_drop, toList_len] at hn
           have HR : Hid (q = if toks.length = 300 then ([], p, 4) else lineR (s.toList.drop (p + n)) (p + n) (toks ++ [⟨kind, bsOf t, p⟩])) := by
             show _ = _
             rw [← HP.out, hsd]
             rw [hsd] at hw
             rw [lineR_ok h32 hw, ← hsd, List.drop_drop]
           rw [hw] at HWW
           clear hw h32 hsd HP
           by_cases h300 : toks.length = 300
           · rw [if_pos h300] at HR
             have t3 : (300 : Int) ≤ (toks.length : Int) := by omega
             clear h300
             go_wp2_with fail
             refine Calls.mono (HWW.out _) ?_
             rintro r w2 ⟨he, hb2⟩
             have he : r = .returned (.tuple #[.agg #[.int .i64 kind, .string (bsOf t), .int .i64 p], .int .i64 ((p : Int) + n), .int .i64 0]) := he
             subst he
             go_wp2_with fail
             go_ret3
             rw [HR.out]
             exact ToksNum.none (k := 4) ((hbr.trans (hb2.mono hzr)).alloc (by have := hb2.size; omega) _)
           · rw [if_neg h300] at HR
             have t3 : ¬ (300 : Int) ≤ (toks.length : Int) := by omega
             have htl2 : toks.length < 300 := by omega
             clear h300
             go_wp2_with fail
             refine Calls.mono (HWW.out _) ?_
             rintro r w2 ⟨he, hb2⟩
             have he : r = .returned (.tuple #[.agg #[.int .i64 kind, .string (bsOf t), .int .i64 p], .int .i64 ((p : Int) + n), .int .i64 0]) := he
             subst he
             have hzw := hb2.size
             have HO2 := Lib.hid (own_keep HO.out hb2)
             have hw2 : Below w.heap.size w w2 := hbr.trans (hb2.mono hzr)
             clear hb2
             go_wp2_with (at_builtin; refine wpList_append_own _ rfl (.tmp 41) (.tmp 43) 23 rfl w.heap.size 42 i0 _ 3 32 Tryz.underlying23 hi hz0 hz1 hz2 rfl (by omega) (.slice A toks.length c) toks.length (flatG Tk.cells toks) rfl ((HO2.out.alloc _).alloc _) ⟨w2.heap.size + 1, 0, none⟩ 1 1 (flatG Tk.cells [⟨kind, bsOf t, p⟩]) rfl rfl (new_flatG _ _ (⟨kind, bsOf t, p⟩ : Tk) _ rfl _ (by simp)) (flatG_cell tk_ok [⟨kind, bsOf t, p⟩]) (by unfold maxLen; omega) (by omega) (by simp; omega) ?_)
             intro v1 w3 hown1 hgrow1 _
             rw [← flatG_append] at hown1
             obtain ⟨_, A2, c2, hv2, _⟩ := own_formG tk_ok hown1
             have hb3 : Below w.heap.size w w3 := ((hw2.alloc (by omega) _).alloc (by simp; omega) _).grown hgrow1 (by simp; omega) (fun g hg => (HO2.out.lt g hg).1)
             rw [hv2] at hown1 ⊢
             have HO3 := Lib.hid hown1
             clear hown1 hgrow1 hv2
             go_wp2_with fail
             exact ⟨⟨p + n, toks ++ [⟨kind, bsOf t, p⟩], A2, c2, by rw [List.length_append]; rfl, by go_num, by omega, by rw [List.length_append, List.length_singleton]; omega, Lib.hid HR.out.symm, by rw [List.length_append, List.length_singleton]; exact HO3, hb3⟩, by simp [intOf]; omega⟩
     · have HR : Hid (q = (toks, 0, 0)) := by show _ = _; rw [← HP.out, drop_noneW s p (by omega)]; rfl
       clear HP
       go_wp2_with fail
       go_ret3
       rw [HR.out]
       obtain ⟨q1, q2, q3⟩ := toks_end HO.out
       exact ⟨A, c, rfl, q1, q2, q3, hbr⟩
end Go.Proofs.YtbggbcnfkcadjaaGreatDoor
namespace Go.Proofs.YtbggbcnfkcadjaaGreatDoor
open Go.RowKit
def bareTk (x : Tk) : Tk := ⟨x.kind, x.s, 0⟩
end Go.Proofs.YtbggbcnfkcadjaaGreatDoor
namespace Go.Proofs.YtbggbcnfkcadjaaGreatDoor
open Go.RowKit
set_option maxRecDepth 100000 in
set_option maxHeartbeats 3200000 in
theorem law_bare (xs : List Tk) (A : Option Addr) (c : Nat) (w : World) (hs : TkSl w w.heap.size A xs) (hl : xs.length ≤ 300) :
   Calls Tryz.prog 24 #[.slice A xs.length c] w fun r w' => ∃ A' c', r = .returned (.slice A' (xs.map bareTk).length c') ∧ TkSl w' w'.heap.size A' (xs.map bareTk) ∧ RowKit.Below w.heap.size w w' ∧ (xs.map bareTk).length ≤ c' ∧ c' ≤ 9223372036854775807 := by
 obtain ⟨i0, hi, hz0, hz1, hz2⟩ := info_parts tok_info
 have HS := Lib.hid hs
 clear hs
 go_enter Tryz.func24, Tryz.ntmps24
 go_wp2_with fail
 go_loopw [3, 4] (fun oo ii wr => ∃ (k : Nat) (A' : Option Addr) (c' : Nat), ii = .int .i64 k ∧ oo = .slice A' k c' ∧ k ≤ xs.length ∧
   Hid (wr.ownsRow w.heap.size 42 3 (.slice A' k c') k (flatG Tk.cells ((xs.map bareTk).take k))) ∧ Below w.heap.size w wr) (fun _ ii _ => xs.length - (intOf ii).toNat)
 case atStart => exact ⟨0, none, 0, rfl, rfl, by omega, World.ownsRow_nil _ _ _ _, Below.refl _ _⟩
 case round =>
   obtain ⟨k, A', c', rfl, rfl, hk, HO, hbr⟩ := hrel
   have hzr := hbr.size
   by_cases hlt : k < xs.length
   · obtain ⟨x, hx⟩ : ∃ x, xs[k]? = some x := ⟨_, List.getElem?_eq_getElem hlt⟩
     obtain ⟨b, o, rfl, hb, ⟨d0, d1, d2⟩⟩ := tkSl_at (HS.out.below hbr) hx
     have hbw : b < wr.heap.size := Nat.lt_of_lt_of_le hb hzr
     have HX := Lib.hid hx
     clear hx
     go_wp2_with (at_builtin; refine wpList_append_own _ rfl (.tmp 17) (.tmp 19) 23 rfl w.heap.size 42 i0 _ 3 32 Tryz.underlying23 hi hz0 hz1 hz2 rfl (by omega) (.slice A' k c') k (flatG Tk.cells ((xs.map bareTk).take k)) rfl ((HO.out.alloc _).alloc _) ⟨wr.heap.size + 1, 0, none⟩ 1 1 (flatG Tk.cells [bareTk x]) rfl rfl (new_flatG _ _ (bareTk x) _ rfl _ (by simp)) (flatG_cell tk_ok [bareTk x]) (by unfold maxLen; omega) (by omega) (by simp; omega) ?_)
     intro v1 w3 hown1 hgrow1 _
     rw [← flatG_append] at hown1
     have hmap : (xs.map bareTk).take k ++ [bareTk x] = (xs.map bareTk).take (k + 1) := by rw [List.take_add_one, List.getElem?_map, HX.out]; simp
     rw [hmap] at hown1
     obtain ⟨_, A2, c2, hv2, _⟩ := own_formG tk_ok hown1
     have hb3 : Below w.heap.size w w3 := ((hbr.alloc (by omega) _).alloc (by simp; omega) _).grown hgrow1 (by simp; omega) (fun g hg => (HO.out.lt g hg).1)
     rw [hv2] at hown1 ⊢
     have HO3 := Lib.hid hown1
     clear hown1 hgrow1 hv2 hmap
     go_wp2_with fail
     exact ⟨⟨k + 1, A2, c2, by go_num, rfl, by omega, HO3, hb3⟩, by simp [intOf]; omega⟩
   · have hks : k = xs.length := by omega
     subst hks
     go_wp2_with fail
     go_ret
     have hO := HO.out
     rw [List.take_of_length_le (by rw [List.length_map]; exact Nat.le_refl _)] at hO
     obtain ⟨_, A2, c2, hv2, hn2, hm2, hsl⟩ := own_formG tk_ok hO
     injection hv2 with e1 e2 e3
     subst e1 e3
     exact ⟨A', c', by rw [List.length_map]; rfl, hsl, hbr, by rw [List.length_map]; exact hn2, hm2⟩
theorem law_num (n : Int) (w : World) :
   Calls Tryz.prog 11 #[.int .i64 n] w fun r w' => r = .returned (.agg #[.int .i64 2, .int .i64 n, .string ⟨#[]⟩, .string ⟨#[]⟩]) ∧ RowKit.Below w.heap.size w w' := by
 go_enter Tryz.func11, Tryz.ntmps11
 go_wp2
 exact bodyPost_ret (v := .agg #[.int .i64 2, .int .i64 n, .string ⟨#[]⟩, .string ⟨#[]⟩]) (by simp [results, Tryz.results11, go_sem]) rfl ⟨rfl, by (repeat (first | assumption | exact Below.refl _ _ | apply Below.drew | apply below_drewN | (refine Below.alloc ?_ (by first | exact Nat.le_refl _ | omega | (simp; done) | (simp; omega)) _)))⟩
set_option maxHeartbeats 1600000 in
theorem law_quick (s : ByteArray) (xs : List Tk) (hx : (readP s).1.map bareTk = xs) (hl : (readP s).1.length ≤ 300) (w : World) (hs : s.size ≤ 140737488351232) :
   Calls Tryz.prog 13 #[.string s] w fun r w' => ∃ A c, r = .returned (.slice A xs.length c) ∧ TkSl w' w'.heap.size A xs ∧ RowKit.Below w.heap.size w w' ∧ xs.length ≤ c ∧ c ≤ 9223372036854775807 := by
 have HC := Lib.hid (r2_Words s w hs)
 subst hx
 go_enter Tryz.func13, Tryz.ntmps13
 go_wp2_with fail
 refine HC.out.mono ?_
 rintro r w1 ⟨A, c, rfl, h1, h2, h3, h4⟩
 have HB := Lib.hid (law_bare _ A c w1 h3 hl)
 have H4 := Lib.hid h4
 clear h1 h2 h3 h4
 go_wp2_with fail
 refine HB.out.mono ?_
 rintro r w2 ⟨A2, c2, rfl, g1, g2, g3, g4⟩
 have G := Lib.hid (And.intro g1 (H4.out.trans (g2.mono H4.out.size)))
 clear g1 g2
 go_wp2_with fail
 go_ret
 exact ⟨A2, c2, by rw [List.length_map]; rfl, G.out.1, G.out.2, g3, g4⟩
end Go.Proofs.YtbggbcnfkcadjaaGreatDoor
