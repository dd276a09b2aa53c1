/-
  THE WALKS of the laws' own small functions: permitted, among.
  THE WALK of the law's fits.
-/
import Derived.Test.YtpheiojmcafolaaGreatDoorSw15
namespace Go.Proofs.YtpheiojmcafolaaGreatDoor
set_option maxRecDepth 100000
open Go.RowKit Go.Sort
def uA : Ud := ⟨⟨#[65]⟩, ⟨#[]⟩⟩
def nR : Nd := ⟨6, 0, ⟨#[]⟩, ⟨#[]⟩⟩
def rqP : Rq := ⟨uA, uA, uA, [nR]⟩
theorem rq_P : rqErr rqP = 0 := by
 simp [rqErr, rqP, uA, udErr, nR, nameErr, textErr, valErr, vGo, shapedV, opH, nameB, letterI, digitI, ByteArray.toList_mk]
def pA : Po := ⟨⟨#[97]⟩, false, ⟨0, ⟨#[]⟩, ⟨⟨#[]⟩, ⟨#[]⟩⟩⟩, ⟨0, ⟨#[]⟩, ⟨⟨#[]⟩, ⟨#[]⟩⟩⟩, ⟨0, ⟨#[]⟩, ⟨⟨#[]⟩, ⟨#[]⟩⟩⟩, []⟩
def pmA : PoM := ⟨pA, [], none, 0⟩
theorem polA : polErr pA = 0 := by
 have hn : nameErr pA.name.toList = 0 := by show nameErr (⟨#[97]⟩ : ByteArray).toList = 0; rw [ByteArray.toList_eq]; decide
 have hs : ∀ b, scOk ⟨0, ⟨#[]⟩, ⟨⟨#[]⟩, ⟨#[]⟩⟩⟩ b = true := fun b => by simp [scOk, udNone, emp, ByteArray.toList_eq]
 unfold polErr
 rw [if_neg (by simp [hn]), if_neg (by show ¬ (scOk _ true = false ∨ scOk _ false = false ∨ scOk _ true = false); simp [pA, hs]), if_neg (by simp [pA])]
 rfl
theorem exprPA : (exprP pA).2 = 0 := by
 have he : exprE pA = [opN 11, opN 11, ⟨1, 1, eB, eB⟩, ⟨1, 1, eB, eB⟩, ⟨1, 1, eB, eB⟩] := rfl
 unfold exprP
 rw [if_neg (by simp [polA]), he, if_neg (by simp)]
theorem ents_no (w : World) : EntsIn w none [] [] := ⟨SlG.nil _ _ _, ⟨rfl, by simp⟩, by simp, by simp, by simp⟩
theorem ent_no : entErr [] = 0 := by simp [entErr, fnz, cycB]
def xA (qa : Option Addr) (qc : Nat) : Aq := ⟨[], [], none, 0, rqP, qa, qc⟩
theorem askA (qa : Option Addr) (qc : Nat) : askErr (xA qa qc) [pmA] = 0 := by
 have h : aErr [pmA] = 0 := by
   refine (auth_ok nmQ pe1Q pe2Q [pmA]).2 ⟨by simp, fun p hp => ?_, by simp⟩
   simp at hp
   subst hp
   refine ⟨polA, ?_⟩
   show (if (exprP pA).2 ≠ 0 then (exprP pA).2 else if slotsP pA = [] then 0 else 1) = 0
   rw [if_neg (by simp [exprPA])]
   exact if_pos rfl
 unfold askErr firstI
 rw [show (xA qa qc).es = [] from rfl, show (xA qa qc).q = rqP from rfl, if_neg (by simp [ent_no]), if_neg (by simp [h]), rq_P]
theorem posA (W : World) (T : TypeId) : PosIn (W.alloc (.cells #[.string pA.name, .bool pA.forbid, .int .i64 pA.who.op, .string pA.who.ty, .string pA.who.uid.ty, .string pA.who.uid.id, .int .i64 pA.act.op, .string pA.act.ty, .string pA.act.uid.ty, .string pA.act.uid.id, .int .i64 pA.what.op, .string pA.what.ty, .string pA.what.uid.ty, .string pA.what.uid.id, .slice none 0 0] T)) (some ⟨W.heap.size, 0, none⟩) [pmA] := by
 refine ⟨fun _ => ⟨W.heap.size, 0, rfl, by simp, fun i x hx => ?_⟩, fun x hx => ?_⟩
 · cases i with
   | succ i => simp at hx
   | zero =>
     simp at hx; subst hx
     intro j u hu
     rw [World.cell?_alloc_new]
     simp only [Nat.zero_mul, Nat.zero_add]
     rw [← hu]
     simp [PoM.cells, pmA]
 · simp at hx; subst hx
   exact ⟨rfl, Nat.le_refl _, by show 0 ≤ 9223372036854775807; omega, ⟨by decide, ⟨by decide, by decide, by decide⟩, ⟨by decide, by decide, by decide⟩, ⟨by decide, by decide, by decide⟩⟩, ⟨SlG.nil _ _ _, by simp [pmA]⟩, by simp [pmA]⟩
theorem aqA {w : World} (hg : ErrCell w) {qa : Option Addr} {qc : Nat} (h1 : NdSl w w.heap.size qa [nR]) (h2 : 1 ≤ qc ∧ qc ≤ 9223372036854775807) : AqIn (xA qa qc) w := by
 have hr : NdOk [nR] := by intro x hx; simp at hx; subst hx; exact ⟨Nat.zero_le _, Nat.zero_le _⟩
 have hri : NdI [nR] := by intro x hx; simp at hx; subst hx; unfold I64 nR; simp
 have hu : UdOk uA := ⟨by simp [uA, ByteArray.size], Nat.zero_le _⟩
 exact ⟨ents_no w, by simp [xA], Nat.le_refl _, h1, h2, hr, hri, ⟨hu, hu, hu⟩, hg⟩
end Go.Proofs.YtpheiojmcafolaaGreatDoor
namespace Go.Proofs.YtpheiojmcafolaaGreatDoor
set_option maxRecDepth 100000
open Go.RowKit Go.Sort
theorem udSm_ok {u : Ud} (h : UdOk u) : UdSm u := ⟨by have := h.1; unfold maxLen; omega, by have := h.2; unfold maxLen; omega⟩
theorem ty_eq (a b : ByteArray) : decide (a = b) = (a.toList == b.toList) := by
 rw [Bool.eq_iff_iff, decide_eq_true_eq, beq_iff_eq, bs_same]
end Go.Proofs.YtpheiojmcafolaaGreatDoor
