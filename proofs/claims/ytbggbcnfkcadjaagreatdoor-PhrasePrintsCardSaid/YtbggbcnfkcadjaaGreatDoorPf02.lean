/-
  The library's contracts at this program (written by the kit's programs).
  THE WALKS of package val: shaped. THE WALKS: cmp.Compare at int, cmp.Or at int, val.compare. THE WALKS: slices.CompareFunc at nodes, val.order.
  THE WALKS: the reader of a value's nodes.
-/
import Derived.Shelf.Strings.Builder1
import Derived.Shelf.Strings.Builder2
import Derived.Shelf.Strings.OnBuilder
import Derived.Shelf.Strings.Trim
import Derived.Shelf.Small.Utf8
import Derived.Shelf.Small.Strs
import Derived.Shelf.Small.Wraps
import Derived.Shelf.Strings.BuilderF
import Derived.Shelf.Strings.BuilderK
import Derived.Shelf.Utf8.RuneCount
import Derived.Shelf.Strings.Builder2Cap
import Derived.Shelf.Strconv.Itoa0
import Derived.Shelf.Strconv.Itoa1
import Derived.Shelf.LaysM
import Derived.Shelf.Strconv.Itoa2
import Derived.Shelf.Strconv.Itoa3
import Derived.Shelf.Strconv.ParseIntEmpty
import Derived.Shelf.Strconv.Clone
import Derived.Shelf.Strconv.SyntaxError
import Derived.Shelf.LaysC
import Derived.Shelf.Strconv.ToError
import Derived.Shelf.Strconv.Lower
import Derived.Shelf.Strconv.ParseUint10
import Derived.Shelf.Strconv.ParseUint10Empty
import Derived.Shelf.Strconv.ParseUint10Any
import Derived.Shelf.Strconv.ParseInt10
import Derived.Shelf.Strconv.RangeError
import Derived.Shelf.Strconv.ToErrorRange
import Derived.Shelf.Strconv.ParseUintEmpty
import Derived.Shelf.Strconv.ParseUint10b64
import Derived.Shelf.Strconv.ParseUint10b32
import Derived.Shelf.Strconv.ParseUint10b16
import Derived.Shelf.Strconv.ParseUint10b8
import Derived.Shelf.Strconv.ParseUint10At
import Derived.Shelf.Strconv.ParseInt10At64
import Derived.Shelf.Strconv.ParseInt10At32
import Derived.Shelf.Strconv.ParseInt10At16
import Derived.Shelf.Strconv.ParseInt10At8
import Derived.Shelf.Strconv.ParseInt10All
import Derived.Shelf.Strconv.ParseIntPublic10
import Derived.Shelf.Strconv.ErrVarParseInt
import Derived.Shelf.Strings.Search1
import Derived.Shelf.Strings.Search2
import Derived.Shelf.Strings.Search3
import Derived.Shelf.Strings.Count
import Derived.Shelf.Strings.Shaped
import Derived.Shelf.Strings.Prefix
import Derived.Shelf.Strings.Split
import Derived.Shelf.Unicode.Decode
import Derived.Shelf.Strings.Runes
import Derived.Shelf.Strings.RuneCount
import Derived.Shelf.Strings.AsciiSet
import Derived.Shelf.Unicode.DecodeSlow
import Derived.Shelf.Unicode.DecodeAny
import Derived.Shelf.Strings.BuilderCap
import Derived.Ground.Names2Prog
import Derived.Shelf.Slices.SearchI
import Derived.Test.YtbggbcnfkcadjaaGreatDoorProg
import Derived.Test.YtbggbcnfkcadjaaGreatDoorPf01
import Derived.Deep.RegionHeld3
import Derived.Deep.QuietTactic
import Derived.BigQuiet
namespace Go.Proofs
open Go.Shelf
def Tryz.lays106_ren : Go.Shelf.Ren := ⟨fun | 106 => 197 | 213 => 210 | 265 => 225 | n => n, fun | 9 => 9 | 3 => 3 | n => n, fun | n => n⟩
theorem Tryz.lays106 : Go.Proofs.Lays.n106 Tryz.prog Tryz.lays106_ren := {
 mixed := by kernel_rfl
 f106 := Tryz.func197.trans (congrArg some (by kernel_rfl))
 f213 := Tryz.func210.trans (congrArg some (by kernel_rfl))
 f265 := Tryz.func225.trans (congrArg some (by kernel_rfl))
 t3 := Tryz.underlying3
 a3 := Tryz.isAgg3
 z3 := Tryz.sizeOf3
 v3 := Tryz.zeroValue3
 t9 := Tryz.underlying9
 a9 := Tryz.isAgg9
 z9 := Tryz.sizeOf9
 v9 := Tryz.zeroValue9 }
open Go.RowKit in
theorem Tryz.strings_Compare (a b : ByteArray) (w : World) :
   Calls Tryz.prog 197 #[.string a, .string b] w fun e w' => e = .returned (.int .i64 (Lib.compareBytes a.data.toList b.data.toList)) ∧ w' = w := Any.strings_Compare Tryz.lays106 a b w
def Tryz.lays103_ren : Go.Shelf.Ren := ⟨fun | 103 => 82 | 210 => 117 | 206 => 146 | n => n, fun | 9 => 9 | 4 => 4 | 24 => 50 | 3 => 3 | n => n, fun | n => n⟩
theorem Tryz.lays103 : Go.Proofs.Lays.n103 Tryz.prog Tryz.lays103_ren := {
 mixed := by kernel_rfl
 f103 := Tryz.func82.trans (congrArg some (by kernel_rfl))
 f206 := Tryz.func146.trans (congrArg some (by kernel_rfl))
 f210 := Tryz.func117.trans (congrArg some (by kernel_rfl))
 t3 := Tryz.underlying3
 a3 := Tryz.isAgg3
 z3 := Tryz.sizeOf3
 v3 := Tryz.zeroValue3
 t4 := Tryz.underlying4
 a4 := Tryz.isAgg4
 z4 := Tryz.sizeOf4
 v4 := Tryz.zeroValue4
 t9 := Tryz.underlying9
 a9 := Tryz.isAgg9
 z9 := Tryz.sizeOf9
 v9 := Tryz.zeroValue9
 t24 := Tryz.underlying50
 a24 := Tryz.isAgg50
 z24 := Tryz.sizeOf50
 v24 := Tryz.zeroValue50 }
open Go.RowKit in
theorem Tryz.strings_CutPrefix (s p : ByteArray) (w : World) :
   Calls Tryz.prog 82 #[.string s, .string p] w fun e w' => e = .returned (.tuple #[.string ⟨(Lib.trimPrefix s.data.toList p.data.toList).toArray⟩, .bool (Lib.hasPrefix s.data.toList p.data.toList)]) ∧ w' = w := Any.strings_CutPrefix Tryz.lays103 s p w
def Tryz.lays121_ren : Go.Shelf.Ren := ⟨fun | 121 => 81 | 214 => 116 | n => n, fun | 4 => 4 | 9 => 9 | n => n, fun | n => n⟩
theorem Tryz.lays121 : Go.Proofs.Lays.n121 Tryz.prog Tryz.lays121_ren := {
 mixed := by kernel_rfl
 f121 := Tryz.func81.trans (congrArg some (by kernel_rfl))
 f214 := Tryz.func116.trans (congrArg some (by kernel_rfl))
 t4 := Tryz.underlying4
 a4 := Tryz.isAgg4
 z4 := Tryz.sizeOf4
 v4 := Tryz.zeroValue4
 t9 := Tryz.underlying9
 a9 := Tryz.isAgg9
 z9 := Tryz.sizeOf9
 v9 := Tryz.zeroValue9 }
open Go.RowKit in
theorem Tryz.strconv_FormatBool (b : Bool) (w : World) :
   Calls Tryz.prog 81 #[.bool b] w fun e w' => e = .returned (.string ⟨(Lib.formatBool b).toArray⟩) ∧ w' = w := Any.strconv_FormatBool Tryz.lays121 b w
def Tryz.laysM171_ren : Go.Shelf.Ren := ⟨fun | 171 => 83 | 243 => 118 | 246 => 147 | 283 => 163 | 284 => 164 | 285 => 165 | 286 => 166 | 129 => 181 | 317 => 180 | 318 => 182 | 319 => 183 | 320 => 184 | 337 => 198 | 338 => 199 | n => n, fun | 3 => 3 | 9 => 9 | 2 => 2 | 4 => 4 | 171 => 213 | 0 => 0 | 53 => 214 | 37 => 135 | 5 => 5 | 173 => 217 | 212 => 232 | 51 => 194 | 20 => 20 | 213 => 233 | 46 => 234 | 232 => 271 | 233 => 272 | n => n, fun | 17 => 2 | 18 => 3 | 19 => 4 | n => n⟩
theorem Tryz.laysM171 : Go.Proofs.LaysM.n171 Tryz.prog Tryz.laysM171_ren := {
 mixed := by kernel_rfl
 f129 := Tryz.func181.trans (congrArg some (by kernel_rfl))
 f171 := Tryz.func83.trans (congrArg some (by kernel_rfl))
 f243 := Tryz.func118.trans (congrArg some (by kernel_rfl))
 f246 := Tryz.func147.trans (congrArg some (by kernel_rfl))
 f283 := Tryz.func163.trans (congrArg some (by kernel_rfl))
 f284 := Tryz.func164.trans (congrArg some (by kernel_rfl))
 f285 := Tryz.func165.trans (congrArg some (by kernel_rfl))
 f286 := Tryz.func166.trans (congrArg some (by kernel_rfl))
 f317 := Tryz.func180.trans (congrArg some (by kernel_rfl))
 f318 := Tryz.func182.trans (congrArg some (by kernel_rfl))
 f319 := Tryz.func183.trans (congrArg some (by kernel_rfl))
 f320 := Tryz.func184.trans (congrArg some (by kernel_rfl))
 f337 := Tryz.func198.trans (congrArg some (by kernel_rfl))
 f338 := Tryz.func199.trans (congrArg some (by kernel_rfl))
 t0 := Tryz.underlying0
 a0 := Tryz.isAgg0
 z0 := Tryz.sizeOf0
 v0 := Tryz.zeroValue0
 t2 := Tryz.underlying2
 a2 := Tryz.isAgg2
 z2 := Tryz.sizeOf2
 v2 := Tryz.zeroValue2
 t3 := Tryz.underlying3
 a3 := Tryz.isAgg3
 z3 := Tryz.sizeOf3
 v3 := Tryz.zeroValue3
 t4 := Tryz.underlying4
 a4 := Tryz.isAgg4
 z4 := Tryz.sizeOf4
 v4 := Tryz.zeroValue4
 t5 := Tryz.underlying5
 a5 := Tryz.isAgg5
 z5 := Tryz.sizeOf5
 v5 := Tryz.zeroValue5
 t9 := Tryz.underlying9
 a9 := Tryz.isAgg9
 z9 := Tryz.sizeOf9
 v9 := Tryz.zeroValue9
 t20 := Tryz.underlying20
 a20 := Tryz.isAgg20
 z20 := Tryz.sizeOf20
 v20 := Tryz.zeroValue20
 t37 := Tryz.underlying135
 a37 := Tryz.isAgg135
 z37 := Tryz.sizeOf135
 v37 := Tryz.zeroValue135
 t46 := Tryz.underlying234
 a46 := Tryz.isAgg234
 z46 := Tryz.sizeOf234
 v46 := Tryz.zeroValue234
 t51 := Tryz.underlying194
 a51 := Tryz.isAgg194
 z51 := Tryz.sizeOf194
 v51 := Tryz.zeroValue194
 t53 := Tryz.underlying214
 a53 := Tryz.isAgg214
 z53 := Tryz.sizeOf214
 v53 := Tryz.zeroValue214
 t171 := Tryz.underlying213
 a171 := Tryz.isAgg213
 z171 := Tryz.sizeOf213
 v171 := Tryz.zeroValue213
 t173 := Tryz.underlying217
 a173 := Tryz.isAgg217
 z173 := Tryz.sizeOf217
 v173 := Tryz.zeroValue217
 t212 := Tryz.underlying232
 a212 := Tryz.isAgg232
 z212 := Tryz.sizeOf232
 v212 := Tryz.zeroValue232
 t213 := Tryz.underlying233
 a213 := Tryz.isAgg233
 z213 := Tryz.sizeOf233
 t232 := Tryz.underlying271
 a232 := Tryz.isAgg271
 z232 := Tryz.sizeOf271
 v232 := Tryz.zeroValue271
 t233 := Tryz.underlying272
 a233 := Tryz.isAgg272
 z233 := Tryz.sizeOf272
 v233 := Tryz.zeroValue272
 g17 := by kernel_rfl
 g18 := by kernel_rfl
 g19 := by kernel_rfl
 i0 := by kernel_rfl
 i2 := by kernel_rfl
 i3 := by kernel_rfl
 i4 := by kernel_rfl
 i5 := by kernel_rfl
 i9 := by kernel_rfl
 i20 := by kernel_rfl
 i37 := by kernel_rfl
 i46 := by kernel_rfl
 i51 := by kernel_rfl
 i53 := by kernel_rfl
 i171 := by kernel_rfl
 i173 := by kernel_rfl
 i212 := by kernel_rfl
 i232 := by kernel_rfl
 i233 := by kernel_rfl
 m17 := by kernel_rfl
 m18 := by kernel_rfl
 m19 := by kernel_rfl }
open Go.RowKit Go.Sort Go.Lib in
theorem Tryz.strconv_Itoa (n : Int) (h0 : -9223372036854775808 ≤ n) (h1 : n ≤ 9223372036854775807) (w : World) (htab : Lib.TabIs Tryz.prog w "internal/strconv.uint64pow10" .u64 Lib.pow10Tab) :
   Calls Tryz.prog 83 #[.int .i64 n] w fun e w' => e = .returned (.string ⟨(Lib.itoa n).toArray⟩) ∧ ∃ k os, w' = grow (w.drewN k) os := Any.strconv_Itoa Tryz.laysM171 n h0 h1 w htab
end Go.Proofs
namespace Go.Proofs.YtbggbcnfkcadjaaGreatDoor
open Go.RowKit
set_option maxHeartbeats 1600000 in
theorem val_shaped (op n : Int) (s t : ByteArray) (w : World) (hs : s.size ≤ 140737488351232) (ht : t.size ≤ 140737488351232) :
   Calls Tryz.prog 161 #[.agg #[.int .i64 op, .int .i64 n, .string s, .string t]] w fun e w' => e = .returned (.bool (shapedV ⟨op, n, s, t⟩)) ∧ Below w.heap.size w w' := by
 go_enter Tryz.func161, Tryz.ntmps161
 go_wp2_with (first | (go_at_call 114; refine (name_Check _ _ hs).mono ?_; rintro e w1 ⟨rfl, hb⟩; obtain ⟨hc, hf⟩ := bcell hb) | (go_at_call 115; refine (name_Plain _ _ (by assumption)).mono ?_; rintro e w2 ⟨rfl, hb2⟩))
 all_goals
   go_ret
   refine ⟨ret_bool ?_, ?_⟩
   · simp only [beq_iff_eq, beq_eq_false_iff_ne] at *
     simp [shapedV, *] <;> omega
   · first
       | exact (Below.refl _ _).alloc (Nat.le_refl _) _
       | exact ((Below.refl _ _).alloc (Nat.le_refl _) _).trans (hb.mono (by simp))
       | exact ((Below.refl _ _).alloc (Nat.le_refl _) _).trans (hb2.mono (by simp))
       | exact (((Below.refl _ _).alloc (Nat.le_refl _) _).trans (hb.mono (by simp))).trans (hb2.mono (by have := hb.size; simp at this; omega))
end Go.Proofs.YtbggbcnfkcadjaaGreatDoor
namespace Go.Proofs.YtbggbcnfkcadjaaGreatDoor
open Go.RowKit
set_option maxHeartbeats 400000 in
theorem cmp_Compare (a b : Int) (w : World) :
   Calls Tryz.prog 196 #[.int .i64 a, .int .i64 b] w fun e w' => e = .returned (.int .i64 (cmpI a b)) ∧ w = w' := by
 go_enter Tryz.func196, Tryz.ntmps196
 go_wp2
 all_goals (go_ret; exact ⟨ret_int (by simp [cmpI]; omega), rfl⟩)
set_option maxHeartbeats 400000 in
theorem cmp_Or (b o c : Nat) (l : List Int) (w : World) (hl : l.length ≤ 1000) (hc : ∀ i, i < l.length → w.cell? ⟨b, o + i, none⟩ = some (.int .i64 (l.getD i 0))) :
   Calls Tryz.prog 195 #[.slice (some ⟨b, o, none⟩) l.length c] w fun e w' => e = .returned (.int .i64 (orI l)) ∧ w = w' := by
 have HC := Lib.hid hc
 clear hc
 go_enter Tryz.func195, Tryz.ntmps195
 go_wp2_with fail
 go_loop [8] (fun i => ∃ k : Nat, k ≤ l.length ∧ i = .int .i64 k ∧ Hid (orI l = orI (l.drop k))) (fun i => l.length - (intOf i).toNat)
 case atStart => exact ⟨0, by omega, rfl, rfl⟩
 case round =>
   obtain ⟨k, hk, rfl, HK⟩ := hrel
   by_cases hlt : k < l.length
   · have hcell := HC.out k hlt
     have HD : Hid (l.drop k = l.getD k 0 :: l.drop (k + 1)) := by
       show _ = _
       rw [List.drop_eq_getElem_cons hlt]; simp [List.getD, hlt]
     obtain ⟨x, hx⟩ : ∃ x, x = l.getD k 0 := ⟨_, rfl⟩
     rw [← hx] at hcell
     have HX := Lib.hid hx
     clear hx
     by_cases h0 : x = 0
     · have h0' : (x != 0) = false := by simp [h0]
       go_wp2_with fail
       go_round
       case rel => exact ⟨k + 1, by omega, by go_num, HK.out.trans (by rw [HD.out, ← HX.out]; simp [orI, h0])⟩
       case measure => simp [intOf]; omega
     · have h0' : (x != 0) = true := by simp [h0]
       go_wp2_with fail
       go_ret
       exact ⟨ret_int (by rw [HK.out, HD.out, ← HX.out]; simp [orI, h0]), rfl⟩
   · have : l.drop k = [] := List.drop_eq_nil_of_le (by omega)
     have HD := Lib.hid this
     clear this
     go_wp2_with fail
     go_ret
     exact ⟨ret_int (by rw [HK.out, HD.out]; rfl), rfl⟩
theorem cmp_Or4 (b c : Nat) (p q r s : Int) (w : World) (h0 : w.cell? ⟨b, 0, none⟩ = some (.int .i64 p)) (h1 : w.cell? ⟨b, 1, none⟩ = some (.int .i64 q)) (h2 : w.cell? ⟨b, 2, none⟩ = some (.int .i64 r)) (h3 : w.cell? ⟨b, 3, none⟩ = some (.int .i64 s)) :
   Calls Tryz.prog 195 #[.slice (some ⟨b, 0, none⟩) 4 c] w fun e w' => e = .returned (.int .i64 (orI [p, q, r, s])) ∧ w = w' :=
 cmp_Or b 0 c [p, q, r, s] w (by simp) (fun i hi => by
   match i, hi with
   | 0, _ => exact h0
   | 1, _ => exact h1
   | 2, _ => exact h2
   | 3, _ => exact h3
   | n + 4, hi => simp at hi; omega)
set_option maxHeartbeats 800000 in
theorem val_compare (x y : Nd) (w : World) :
   Calls Tryz.prog 179 #[.agg #[.int .i64 x.op, .int .i64 x.n, .string x.s, .string x.t], .agg #[.int .i64 y.op, .int .i64 y.n, .string y.s, .string y.t]] w fun e w' => e = .returned (.int .i64 (ndCmp x y)) ∧ Below w.heap.size w w' := by
 go_enter Tryz.func179, Tryz.ntmps179
 go_wp2_with fail
 go_region_held3 (fun w' => w'.cell? ⟨w.heap.size, 0, none⟩ = some (.int .i64 x.op) ∧ w'.cell? ⟨w.heap.size, 1, none⟩ = some (.int .i64 x.n) ∧ w'.cell? ⟨w.heap.size, 2, none⟩ = some (.string x.s) ∧ w'.cell? ⟨w.heap.size, 3, none⟩ = some (.string x.t) ∧ w'.cell? ⟨w.heap.size + 1, 0, none⟩ = some (.int .i64 y.op) ∧ w'.cell? ⟨w.heap.size + 1, 1, none⟩ = some (.int .i64 y.n) ∧ w'.cell? ⟨w.heap.size + 1, 2, none⟩ = some (.string y.s) ∧ w'.cell? ⟨w.heap.size + 1, 3, none⟩ = some (.string y.t)) (simp [go_sem, World.cell?_alloc_past])
   (first
     | (go_at_call 196; refine (cmp_Compare _ _ _).mono ?_; rintro e w' ⟨rfl, rfl⟩)
     | (go_at_call 197; refine (Tryz.strings_Compare _ _ _).mono ?_; rintro e w' ⟨rfl, rfl⟩)
     | (go_at_call 195; refine (cmp_Or4 _ _ (cmpI x.op y.op) (cmpI x.n y.n) (Lib.compareBytes x.s.data.toList y.s.data.toList) (Lib.compareBytes x.t.data.toList y.t.data.toList) _ (by simp [go_sem]) (by simp [go_sem]) (by simp [go_sem]) (by simp [go_sem])).mono ?_; rintro e w' ⟨rfl, rfl⟩))
 all_goals go_wp2
 all_goals go_ret
 all_goals exact ⟨rfl, by (repeat (first | assumption | exact Below.refl _ _ | apply Below.drew | apply below_drewN | (refine Below.alloc ?_ (by first | exact Nat.le_refl _ | omega | (simp; done) | (simp; omega)) _)))⟩
end Go.Proofs.YtbggbcnfkcadjaaGreatDoor
namespace Go.Proofs.YtbggbcnfkcadjaaGreatDoor
open Go.RowKit
set_option maxHeartbeats 800000 in
theorem CompareFunc (A1 A2 : Option Addr) (c1 c2 : Nat) (xs ys : List Nd) (w : World) (h1 : NdSl w w.heap.size A1 xs) (h2 : NdSl w w.heap.size A2 ys) (l1 : xs.length ≤ 9223372036854775807) (l2 : ys.length ≤ 9223372036854775807) :
   Calls Tryz.prog 178 #[.slice A1 xs.length c1, .slice A2 ys.length c2, .func (.func 179) #[] #[]] w fun e w' => e = .returned (.int .i64 (ndsCmp xs ys)) ∧ Below w.heap.size w w' := by
 have H1 := Lib.hid h1
 have H2 := Lib.hid h2
 clear h1 h2
 go_enter Tryz.func178, Tryz.ntmps178
 go_wp2_with fail
 go_loopw [13] (fun i wr => ∃ k : Nat, k ≤ xs.length ∧ k ≤ ys.length ∧ i = .int .i64 k ∧ Hid (ndsCmp xs ys = ndsCmp (xs.drop k) (ys.drop k)) ∧ Below w.heap.size w wr) (fun i _ => xs.length - (intOf i).toNat)
 case atStart => exact ⟨0, by omega, by omega, rfl, rfl, Below.refl _ _⟩
 case round =>
   obtain ⟨k, hk, hk2, rfl, HK, hbel⟩ := hrel
   have hwr := hbel.size
   by_cases hlt : k < xs.length
   · obtain ⟨b, o, rfl, hbl, hc⟩ := (H1.out.below hbel).at_ hlt
     obtain ⟨x, hx⟩ : ∃ x, xs[k]? = some x := ⟨_, List.getElem?_eq_getElem hlt⟩
     obtain ⟨d0, d1, d2, d3⟩ := hc k x hx
     have HX : Hid (xs.drop k = x :: xs.drop (k + 1)) := by
       show _ = _
       rw [List.drop_eq_getElem_cons hlt]; rw [List.getElem?_eq_getElem hlt] at hx; injection hx with hx; rw [hx]
     clear hc hx
     by_cases hlt2 : k < ys.length
     · obtain ⟨b2, o2, rfl, hbl2, hc⟩ := (H2.out.below hbel).at_ hlt2
       obtain ⟨y, hy⟩ : ∃ y, ys[k]? = some y := ⟨_, List.getElem?_eq_getElem hlt2⟩
       obtain ⟨e0, e1, e2, e3⟩ := hc k y hy
       have HY : Hid (ys.drop k = y :: ys.drop (k + 1)) := by
         show _ = _
         rw [List.drop_eq_getElem_cons hlt2]; rw [List.getElem?_eq_getElem hlt2] at hy; injection hy with hy; rw [hy]
       clear hc hy
       have hwr := hbel.size
       have g1 : b < wr.heap.size := by omega
       have g2 : b2 < wr.heap.size := by omega
       go_wp2_with (go_at_call 179; refine (val_compare x y _).mono ?_; rintro e w1 ⟨rfl, hb1⟩)
       · go_ret
         have hne : (ndCmp x y != 0) = true := by assumption
         have hne' : ¬ ndCmp x y = 0 := by simpa using hne
         exact ⟨ret_int (by rw [HK.out, HX.out, HY.out, ndsCmp, if_neg hne']), hbel.trans ((by (repeat (first | assumption | exact Below.refl _ _ | apply Below.drew | apply below_drewN | (refine Below.alloc ?_ (by first | exact Nat.le_refl _ | omega | (simp; done) | (simp; omega)) _))) : Below w.heap.size wr _).trans (hb1.mono (by simp; omega)))⟩
       · have hne : (ndCmp x y != 0) = false := by assumption
         have hne' : ndCmp x y = 0 := by simpa using hne
         go_roundw
         case rel => exact ⟨k + 1, by omega, by omega, by go_num, by rw [Hid, HK.out, HX.out, HY.out, ndsCmp, if_pos hne'], hbel.trans ((by (repeat (first | assumption | exact Below.refl _ _ | apply Below.drew | apply below_drewN | (refine Below.alloc ?_ (by first | exact Nat.le_refl _ | omega | (simp; done) | (simp; omega)) _))) : Below w.heap.size wr _).trans (hb1.mono (by simp; omega)))⟩
         case measure => simp [intOf]; omega
     · have HY : Hid (ys.drop k = []) := List.drop_eq_nil_of_le (by omega)
       go_wp2_with fail
       go_ret
       exact ⟨ret_int (by rw [HK.out, HX.out, HY.out]; rfl), hbel.trans (by (repeat (first | assumption | exact Below.refl _ _ | apply Below.drew | apply below_drewN | (refine Below.alloc ?_ (by first | exact Nat.le_refl _ | omega | (simp; done) | (simp; omega)) _))))⟩
   · have HX : Hid (xs.drop k = []) := List.drop_eq_nil_of_le (by omega)
     by_cases hl : xs.length < ys.length
     · have HY : Hid (∃ y l, ys.drop k = y :: l) := ⟨_, _, List.drop_eq_getElem_cons (by omega)⟩
       go_wp2_with fail
       go_ret
       obtain ⟨y, l, hyl⟩ := HY.out
       exact ⟨ret_int (by rw [HK.out, HX.out, hyl]; rfl), hbel⟩
     · have HY : Hid (ys.drop k = []) := List.drop_eq_nil_of_le (by omega)
       go_wp2_with fail
       go_ret
       exact ⟨ret_int (by rw [HK.out, HX.out, HY.out]; rfl), hbel⟩
set_option maxHeartbeats 400000 in
theorem val_order (A1 A2 : Option Addr) (c1 c2 : Nat) (xs ys : List Nd) (w : World) (h1 : NdSl w w.heap.size A1 xs) (h2 : NdSl w w.heap.size A2 ys) (l1 : xs.length ≤ 9223372036854775807) (l2 : ys.length ≤ 9223372036854775807) :
   Calls Tryz.prog 162 #[.slice A1 xs.length c1, .slice A2 ys.length c2] w fun e w' => e = .returned (.int .i64 (ndsCmp xs ys)) ∧ Below w.heap.size w w' := by
 have H1 := Lib.hid h1
 have H2 := Lib.hid h2
 clear h1 h2
 go_enter Tryz.func162, Tryz.ntmps162
 go_wp2_with (go_at_call 178; refine (CompareFunc A1 A2 c1 c2 xs ys _ H1.out H2.out l1 l2).mono ?_; rintro e w1 ⟨rfl, hb1⟩)
 go_ret
 exact ⟨rfl, hb1⟩
end Go.Proofs.YtbggbcnfkcadjaaGreatDoor
namespace Go.Proofs.YtbggbcnfkcadjaaGreatDoor
open Go.RowKit
def rdr (A : Option Addr) (n c i : Nat) : Array Value := #[.slice A n c, .int .i64 i]
def wrongV : List PanicEntry := [{ v := .iface 183 (.agg #[]), recovered := false }]
theorem rdr_step {w : World} {rb : Nat} {A : Option Addr} {n c i : Nat} {T : TypeId} (h : Blk w rb T (rdr A n c i)) : Blk (w.setCell ⟨rb, 1, none⟩ (.int .i64 ((i : Int) + 1))) rb T (rdr A n c (i + 1)) := h.set 1 _
theorem NdSl.only {w w' : World} {B rb : Nat} {A : Option Addr} {xs : List Nd} (h : NdSl w rb A xs) (ho : Only B rb w w') (hB : rb ≤ B) : NdSl w' rb A xs := h.keep fun p hp => ho.cell (by omega) (by omega)
theorem NdSl.piece {w : World} {B b o : Nat} {e : List Nd} (h : NdSl w B (some ⟨b, o, none⟩) e) (i j : Nat) : NdSl w B (some ⟨b, o + i * 4, none⟩) (piece e i j) := fun hne => by
 have he : e ≠ [] := by rintro rfl; simp [Proofs.YtbggbcnfkcadjaaGreatDoor.piece] at hne
 obtain ⟨b', o', h1, hb, hc⟩ := h he
 injection h1 with h1; injection h1 with h1 h2; subst h1 h2
 refine ⟨b, o + i * 4, rfl, hb, fun k x hx => ?_⟩
 have := hc (i + k) x (by
   simp only [Proofs.YtbggbcnfkcadjaaGreatDoor.piece, List.getElem?_take] at hx
   split at hx
   · rwa [List.getElem?_drop] at hx
   · cases hx)
 rwa [show o + i * 4 + k * 4 = o + (i + k) * 4 from by omega]
def PartOk (e : List Nd) (f i : Nat) : Prop := ∀ (w : World) (rb : Nat) (A : Option Addr) (c : Nat), 2 * (e.length - i) ≤ f → i ≤ e.length → e.length ≤ c → c ≤ 9223372036854775807 → NdOk e →
 Blk w rb 186 (rdr A e.length c i) → NdSl w rb A e →
 (∀ j, vGo e f .one i = some j → Calls Tryz.prog 142 #[.pointer (some ⟨rb, 0, none⟩)] w fun r w' => ∃ A' c', r = .returned (.slice A' (piece e i j).length c') ∧ NdSl w' rb A' (piece e i j) ∧ Blk w' rb 186 (rdr A e.length c j) ∧ Only w.heap.size rb w w') ∧
 (vGo e f .one i = none → Calls Tryz.prog 142 #[.pointer (some ⟨rb, 0, none⟩)] w fun r w' => r = .panicked wrongV ∧ Only w.heap.size rb w w')
set_option maxRecDepth 100000 in
set_option maxHeartbeats 1600000 in
theorem part_out (e : List Nd) (f i : Nat) (h : e.length ≤ i) : PartOk e f i := by
 intro w rb A c hf hi hc hcm hok hblk hsl
 have hrb := hblk.lt
 have k0 : w.cell? ⟨rb, 0, none⟩ = some (.slice A e.length c) := hblk.cell 0
 have k1 : w.cell? ⟨rb, 1, none⟩ = some (.int .i64 i) := hblk.cell 1
 have z1 : w.frozen? ⟨rb, 1, none⟩ = false := hblk.frozen 1
 have HN : Hid (e[i]? = none) := List.getElem?_eq_none h
 have HB := Lib.hid hblk
 have HS := Lib.hid hsl
 clear hblk hsl
 refine ⟨fun j hj => ?_, fun hj => ?_⟩
 · have hn := HN.out
   cases f <;> simp [vGo, hn] at hj
 · clear hj
   go_enter Tryz.func142, Tryz.ntmps142
   go_wp2_with fail
   exact ⟨rfl, rfl, Only.refl _ _ _⟩
set_option maxRecDepth 100000 in
set_option maxHeartbeats 1600000 in
theorem part_bad (e : List Nd) (f i : Nat) (x : Nd) (hx : e[i]? = some x) (hsh : shapedV x = false) : PartOk e (f + 1) i := by
 intro w rb A c hf hi hc hcm hok hblk hsl
 have hrb := hblk.lt
 have k0 : w.cell? ⟨rb, 0, none⟩ = some (.slice A e.length c) := hblk.cell 0
 have k1 : w.cell? ⟨rb, 1, none⟩ = some (.int .i64 i) := hblk.cell 1
 have z1 : w.frozen? ⟨rb, 1, none⟩ = false := hblk.frozen 1
 have hil : i < e.length := (List.getElem?_eq_some_iff.1 hx).1
 obtain ⟨b, o, rfl, hb, hcs⟩ := hsl.at_ hil
 obtain ⟨d0, d1, d2, d3⟩ := hcs i x hx
 obtain ⟨hxs, hxt⟩ := hok x (List.mem_of_getElem? hx)
 have hbw : b < w.heap.size := by omega
 have HX := Lib.hid hx
 have HB := Lib.hid hblk
 have HS := Lib.hid hsl
 have HOK := Lib.hid hok
 clear hx hblk hsl hcs hok
 refine ⟨fun j hj => ?_, fun hj => ?_⟩
 · have hn := HX.out
   simp [vGo, hn, hsh] at hj
 · clear hj
   go_enter Tryz.func142, Tryz.ntmps142
   go_wp2_with (go_at_call 161; refine (val_shaped x.op x.n x.s x.t _ hxs hxt).mono ?_; rintro r w1 ⟨rfl, hb1⟩)
   exact ⟨rfl, rfl, Only.of_below hb1 (Nat.le_refl _)⟩
set_option maxRecDepth 100000 in
set_option maxHeartbeats 1600000 in
theorem part_fld (e : List Nd) (f i : Nat) (x : Nd) (hx : e[i]? = some x) (hsh : shapedV x = true) (hop : x.op = 7) : PartOk e (f + 1) i := by
 intro w rb A c hf hi hc hcm hok hblk hsl
 have hrb := hblk.lt
 have k0 : w.cell? ⟨rb, 0, none⟩ = some (.slice A e.length c) := hblk.cell 0
 have k1 : w.cell? ⟨rb, 1, none⟩ = some (.int .i64 i) := hblk.cell 1
 have z1 : w.frozen? ⟨rb, 1, none⟩ = false := hblk.frozen 1
 have hil : i < e.length := (List.getElem?_eq_some_iff.1 hx).1
 obtain ⟨b, o, rfl, hb, hcs⟩ := hsl.at_ hil
 obtain ⟨d0, d1, d2, d3⟩ := hcs i x hx
 obtain ⟨hxs, hxt⟩ := hok x (List.mem_of_getElem? hx)
 have hbw : b < w.heap.size := by omega
 have HX := Lib.hid hx
 have HB := Lib.hid hblk
 have HS := Lib.hid hsl
 have HOK := Lib.hid hok
 clear hx hblk hsl hcs hok
 refine ⟨fun j hj => ?_, fun hj => ?_⟩
 · have hn := HX.out
   simp [vGo, hn, hsh, hop] at hj
 · clear hj
   have HOP := Lib.hid hop
   have p5 : (x.op == 5) = false := by simp [hop]
   have p6 : (x.op == 6) = false := by simp [hop]
   have p7 : (x.op == 7) = true := by simp [hop]
   clear hop
   go_enter Tryz.func142, Tryz.ntmps142
   go_wp2_with (go_at_call 161; refine (val_shaped x.op x.n x.s x.t _ hxs hxt).mono ?_; rintro r w1 ⟨rfl, hb1⟩; obtain ⟨hcc, hff⟩ := bcell hb1; have g1 : rb < w1.heap.size := Nat.lt_of_lt_of_le hrb hb1.size)
   have o1 := Only.of_below (g := rb) hb1 (Nat.le_refl _)
   have hz1 := hb1.size
   exact ⟨rfl, rfl, by (repeat (first | assumption | exact Only.refl _ _ _ | apply Only.drew | apply Only.drewN | (refine Only.alloc ?_ (by first | exact Nat.le_refl _ | omega | (simp; done) | (simp; omega)) _) | (refine Only.setCell ?_ (by first | exact .inl rfl | exact .inr (Nat.le_refl _) | exact .inr (by first | omega | (simp; omega))) _)))⟩
set_option maxRecDepth 100000 in
set_option maxHeartbeats 1600000 in
theorem part_leaf (e : List Nd) (f i : Nat) (x : Nd) (hx : e[i]? = some x) (hsh : shapedV x = true) (h5 : ¬ x.op = 5) (h6 : ¬ x.op = 6) (h7 : ¬ x.op = 7) : PartOk e (f + 1) i := by
 intro w rb A c hf hi hc hcm hok hblk hsl
 have hrb := hblk.lt
 have k0 : w.cell? ⟨rb, 0, none⟩ = some (.slice A e.length c) := hblk.cell 0
 have k1 : w.cell? ⟨rb, 1, none⟩ = some (.int .i64 i) := hblk.cell 1
 have z1 : w.frozen? ⟨rb, 1, none⟩ = false := hblk.frozen 1
 have hil : i < e.length := (List.getElem?_eq_some_iff.1 hx).1
 obtain ⟨b, o, rfl, hb, hcs⟩ := hsl.at_ hil
 obtain ⟨d0, d1, d2, d3⟩ := hcs i x hx
 obtain ⟨hxs, hxt⟩ := hok x (List.mem_of_getElem? hx)
 have hbw : b < w.heap.size := by omega
 have HX := Lib.hid hx
 have HB := Lib.hid hblk
 have HS := Lib.hid hsl
 have HOK := Lib.hid hok
 clear hx hblk hsl hcs hok
 have HV : Hid (vGo e (f + 1) .one i = some (i + 1)) := by
   have hn := HX.out
   show _ = _
   simp [vGo, hn, hsh, h5, h6, h7]
 refine ⟨fun j hj => ?_, fun hj => ?_⟩
 · have hji : j = i + 1 := by rw [HV.out] at hj; injection hj with hj; exact hj.symm
   subst hji
   clear hj
   have p5 : (x.op == 5) = false := by simp [h5]
   have p6 : (x.op == 6) = false := by simp [h6]
   have p7 : (x.op == 7) = false := by simp [h7]
   go_enter Tryz.func142, Tryz.ntmps142
   go_wp2_with (go_at_call 161; refine (val_shaped x.op x.n x.s x.t _ hxs hxt).mono ?_; rintro r w1 ⟨rfl, hb1⟩; obtain ⟨hcc, hff⟩ := bcell hb1; have g1 : rb < w1.heap.size := Nat.lt_of_lt_of_le hrb hb1.size)
   go_quiet (fail)
   go_wp2
   go_ret
   have o1 := Only.of_below (g := rb) hb1 (Nat.le_refl _)
   have hz1 := hb1.size
   have o2 : Only w.heap.size rb w (((w1.setCell ⟨rb, 1, none⟩ (.int .i64 ((i : Int) + 1))).alloc (.cells #[.int .i64 x.op, .int .i64 x.n, .string x.s, .string x.t] 29))) := by (repeat (first | assumption | exact Only.refl _ _ _ | apply Only.drew | apply Only.drewN | (refine Only.alloc ?_ (by first | exact Nat.le_refl _ | omega | (simp; done) | (simp; omega)) _) | (refine Only.setCell ?_ (by first | exact .inl rfl | exact .inr (Nat.le_refl _) | exact .inr (by first | omega | (simp; omega))) _)))
   refine ⟨some ⟨b, o + i * 4, none⟩, c - i, by rw [piece_len hil, show i + 1 - i = 1 from by omega]; rfl, ?_, ?_, ?_⟩
   · exact ((HS.out.piece i (i + 1)).only (o2.drewN _) (Nat.le_of_lt hrb))
   · exact ((rdr_step (HB.out.below hb1 hrb)).alloc _).drewN _
   · exact o2.drewN _
 · have hn := HV.out
   rw [hj] at hn; cases hn
end Go.Proofs.YtbggbcnfkcadjaaGreatDoor
