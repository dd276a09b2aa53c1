/-
  THE WALKS of the laws' own small functions: permitted, among.
  THE WALK of the law's fits.
-/
import Derived.Test.YtpheiojmcafolaaGreatDoorSx15
namespace Go.Proofs.YtpheiojmcafolaaGreatDoor
set_option maxRecDepth 100000
open Go.RowKit Go.Sort
def uA : Ud := ⟨⟨#[65]⟩, ⟨#[]⟩⟩
def nR : Nd := ⟨6, 0, ⟨#[]⟩, ⟨#[]⟩⟩
def rqP : Rq := ⟨uA, uA, uA, [nR]⟩
theorem rq_P : rqErr rqP = 0 := by
 simp [rqErr, rqP, uA, udErr, nR, nameErr, textErr, valErr, vGo, shapedV, opH, nameB, letterI, digitI, ByteArray.toList_mk]
def pA : Po := ⟨⟨#[97]⟩, false, ⟨0, ⟨#[]⟩, ⟨⟨#[]⟩, ⟨#[]⟩⟩⟩, ⟨0, ⟨#[]⟩, ⟨⟨#[]⟩, ⟨#[]⟩⟩⟩, ⟨0, ⟨#[]⟩, ⟨⟨#[]⟩, ⟨#[]⟩⟩⟩, []⟩
def pmA : PoM := ⟨pA, [], none, 0⟩
theorem polA : polErr pA = 0 := by
 have hn : nameErr pA.name.toList = 0 := by show nameErr (⟨#[97]⟩ : ByteArray).toList = 0; rw [ByteArray.toList_eq]; decide
 have hs : ∀ b, scOk ⟨0, ⟨#[]⟩, ⟨⟨#[]⟩, ⟨#[]⟩⟩⟩ b = true := fun b => by simp [scOk, udNone, emp, ByteArray.toList_eq]
 unfold polErr
 rw [if_neg (by simp [hn]), if_neg (by show ¬ (scOk _ true = false ∨ scOk _ false = false ∨ scOk _ true = false); simp [pA, hs]), if_neg (by simp [pA])]
 rfl
theorem exprPA : (exprP pA).2 = 0 := by
 have he : exprE pA = [opN 11, opN 11, ⟨1, 1, eB, eB⟩, ⟨1, 1, eB, eB⟩, ⟨1, 1, eB, eB⟩] := rfl
 unfold exprP
 rw [if_neg (by simp [polA]), he, if_neg (by simp)]
theorem ents_no (w : World) : EntsIn w none [] [] := ⟨SlG.nil _ _ _, ⟨rfl, by simp⟩, by simp, by simp, by simp⟩
theorem ent_no : entErr [] = 0 := by simp [entErr, fnz, cycB]
def xA (qa : Option Addr) (qc : Nat) : Aq := ⟨[], [], none, 0, rqP, qa, qc⟩
theorem askA (qa : Option Addr) (qc : Nat) : askErr (xA qa qc) [pmA] = 0 := by
 have h : aErr [pmA] = 0 := by
   refine (auth_ok nmQ pe1Q pe2Q [pmA]).2 ⟨by simp, fun p hp => ?_, by simp⟩
   simp at hp
   subst hp
   refine ⟨polA, ?_⟩
   show (if (exprP pA).2 ≠ 0 then (exprP pA).2 else if slotsP pA = [] then 0 else 1) = 0
   rw [if_neg (by simp [exprPA])]
   exact if_pos rfl
 unfold askErr firstI
 rw [show (xA qa qc).es = [] from rfl, show (xA qa qc).q = rqP from rfl, if_neg (by simp [ent_no]), if_neg (by simp [h]), rq_P]
theorem posA (W : World) (T : TypeId) : PosIn (W.alloc (.cells #[.string pA.name, .bool pA.forbid, .int .i64 pA.who.op, .string pA.who.ty, .string pA.who.uid.ty, .string pA.who.uid.id, .int .i64 pA.act.op, .string pA.act.ty, .string pA.act.uid.ty, .string pA.act.uid.id, .int .i64 pA.what.op, .string pA.what.ty, .string pA.what.uid.ty, .string pA.what.uid.id, .slice none 0 0] T)) (some ⟨W.heap.size, 0, none⟩) [pmA] := by
 refine ⟨fun _ => ⟨W.heap.size, 0, rfl, by simp, fun i x hx => ?_⟩, fun x hx => ?_⟩
 · cases i with
   | succ i => simp at hx
   | zero =>
     simp at hx; subst hx
     intro j u hu
     rw [World.cell?_alloc_new]
     simp only [Nat.zero_mul, Nat.zero_add]
     rw [← hu]
     simp [PoM.cells, pmA]
 · simp at hx; subst hx
   exact ⟨rfl, Nat.le_refl _, by show 0 ≤ 9223372036854775807; omega, ⟨by decide, ⟨by decide, by decide, by decide⟩, ⟨by decide, by decide, by decide⟩, ⟨by decide, by decide, by decide⟩⟩, ⟨SlG.nil _ _ _, by simp [pmA]⟩, by simp [pmA]⟩
theorem aqA {w : World} (hg : ErrCell w) {qa : Option Addr} {qc : Nat} (h1 : NdSl w w.heap.size qa [nR]) (h2 : 1 ≤ qc ∧ qc ≤ 9223372036854775807) : AqIn (xA qa qc) w := by
 have hr : NdOk [nR] := by intro x hx; simp at hx; subst hx; exact ⟨Nat.zero_le _, Nat.zero_le _⟩
 have hri : NdI [nR] := by intro x hx; simp at hx; subst hx; unfold I64 nR; simp
 have hu : UdOk uA := ⟨by simp [uA, ByteArray.size], Nat.zero_le _⟩
 exact ⟨ents_no w, by simp [xA], Nat.le_refl _, h1, h2, hr, hri, ⟨hu, hu, hu⟩, hg⟩
theorem str_at' {w : World} {B : Nat} {A : Option Addr} {ss : List (List UInt8)} (h : StrSl w B A ss) {i : Nat} {x : List UInt8} (hx : ss[i]? = some x) : ∃ b o, A = some ⟨b, o, none⟩ ∧ b < B ∧ ∀ j l, ss[j]? = some l → ∃ s : ByteArray, w.cell? ⟨b, o + j, none⟩ = some (.string s) ∧ s.toList = l := by
 obtain ⟨b, o, e, hb, hc⟩ := h.at_ (List.getElem?_eq_some_iff.1 hx).1
 exact ⟨b, o, e, hb, fun j l hl => ⟨bsL l, hc j l hl, bsL_toList l⟩⟩
theorem law_among (s : ByteArray) (ss : List (List UInt8)) (A : Option Addr) (c : Nat) (w : World) (hs : StrSl w w.heap.size A ss) (hl : ss.length ≤ 9223372036854775807) :
   Calls Tryz.prog 36 #[.string s, .slice A ss.length c] w fun e w' => e = .returned (.bool (ss.contains s.toList)) ∧ w = w' := by
 obtain ⟨q, hq⟩ : ∃ q, ss.contains s.toList = q := ⟨_, rfl⟩
 rw [hq]
 have HQ := Lib.hid hq
 have HS := Lib.hid hs
 clear hq hs
 go_enter Tryz.func36, Tryz.ntmps36
 go_wp2_with fail
 go_loop [5] (fun ii => ∃ k : Nat, ii = .int .i64 k ∧ k ≤ ss.length ∧ Hid (s.toList ∉ ss.take k)) (fun ii => ss.length - (intOf ii).toNat)
 case atStart => exact ⟨0, rfl, by omega, by simp [Hid]⟩
 case round =>
   obtain ⟨k, rfl, hk, HK⟩ := hrel
   by_cases hlt : k < ss.length
   · obtain ⟨x, hx⟩ : ∃ x, ss[k]? = some x := ⟨_, List.getElem?_eq_getElem hlt⟩
     obtain ⟨b, o, rfl, hb, hcs⟩ := str_at' HS.out hx
     obtain ⟨sx, c0, hsx⟩ := hcs k x hx
     have HX := Lib.hid hx
     have HSX := Lib.hid hsx
     clear hx hcs hsx
     by_cases hm : sx.toList = s.toList
     · have tm : (sx.toList == s.toList) = true := by simp [hm]
       have hv : Hid (q = true) := by
         show _ = _
         rw [← HQ.out, ← hm, HSX.out]
         simpa using List.mem_of_getElem? HX.out
       clear hm
       go_wp2_with fail
       go_ret
       rw [hv.out]
       exact ⟨rfl, rfl⟩
     · have tm : (sx.toList == s.toList) = false := by simp [hm]
       have HK2 : Hid (s.toList ∉ ss.take (k + 1)) := by
         show _ ∉ _
         rw [List.take_add_one, HX.out]
         simp only [Option.toList, List.mem_append, List.mem_singleton, not_or]
         exact ⟨HK.out, fun h => hm (by rw [HSX.out, h])⟩
       clear hm
       go_wp2_with fail
       exact ⟨⟨k + 1, by go_num, by omega, HK2⟩, by simp [intOf]; omega⟩
   · have hv : Hid (q = false) := by
       show _ = _
       have := HK.out
       rw [List.take_of_length_le (by omega)] at this
       rw [← HQ.out]
       simpa using this
     go_wp2_with fail
     go_ret
     rw [hv.out]
     exact ⟨rfl, rfl⟩
end Go.Proofs.YtpheiojmcafolaaGreatDoor
namespace Go.Proofs.YtpheiojmcafolaaGreatDoor
set_option maxRecDepth 100000
open Go.RowKit Go.Sort
theorem udSm_ok {u : Ud} (h : UdOk u) : UdSm u := ⟨by have := h.1; unfold maxLen; omega, by have := h.2; unfold maxLen; omega⟩
theorem ty_eq (a b : ByteArray) : decide (a = b) = (a.toList == b.toList) := by
 rw [Bool.eq_iff_iff, decide_eq_true_eq, beq_iff_eq, bs_same]
end Go.Proofs.YtpheiojmcafolaaGreatDoor
