/-
  THE WALKS of the laws' own small functions: permitted, among.
  THE WALK of the laws' alike; an order of policies, in plain Lean.
-/
import Derived.Test.YtpheiojmcafolaaGreatDoorAw15
namespace Go.Proofs.YtpheiojmcafolaaGreatDoor
set_option maxRecDepth 100000
open Go.RowKit Go.Sort
def uA : Ud := ⟨⟨#[65]⟩, ⟨#[]⟩⟩
def nR : Nd := ⟨6, 0, ⟨#[]⟩, ⟨#[]⟩⟩
def rqP : Rq := ⟨uA, uA, uA, [nR]⟩
theorem rq_P : rqErr rqP = 0 := by
 simp [rqErr, rqP, uA, udErr, nR, nameErr, textErr, valErr, vGo, shapedV, opH, nameB, letterI, digitI, ByteArray.toList_mk]
def pA : Po := ⟨⟨#[97]⟩, false, ⟨0, ⟨#[]⟩, ⟨⟨#[]⟩, ⟨#[]⟩⟩⟩, ⟨0, ⟨#[]⟩, ⟨⟨#[]⟩, ⟨#[]⟩⟩⟩, ⟨0, ⟨#[]⟩, ⟨⟨#[]⟩, ⟨#[]⟩⟩⟩, []⟩
def pmA : PoM := ⟨pA, [], none, 0⟩
theorem polA : polErr pA = 0 := by
 have hn : nameErr pA.name.toList = 0 := by show nameErr (⟨#[97]⟩ : ByteArray).toList = 0; rw [ByteArray.toList_eq]; decide
 have hs : ∀ b, scOk ⟨0, ⟨#[]⟩, ⟨⟨#[]⟩, ⟨#[]⟩⟩⟩ b = true := fun b => by simp [scOk, udNone, emp, ByteArray.toList_eq]
 unfold polErr
 rw [if_neg (by simp [hn]), if_neg (by show ¬ (scOk _ true = false ∨ scOk _ false = false ∨ scOk _ true = false); simp [pA, hs]), if_neg (by simp [pA])]
 rfl
theorem exprPA : (exprP pA).2 = 0 := by
 have he : exprE pA = [opN 11, opN 11, ⟨1, 1, eB, eB⟩, ⟨1, 1, eB, eB⟩, ⟨1, 1, eB, eB⟩] := rfl
 unfold exprP
 rw [if_neg (by simp [polA]), he, if_neg (by simp)]
theorem ents_no (w : World) : EntsIn w none [] [] := ⟨SlG.nil _ _ _, ⟨rfl, by simp⟩, by simp, by simp, by simp⟩
theorem ent_no : entErr [] = 0 := by simp [entErr, fnz, cycB]
theorem vtA : vtQ [] rqP pmA = 1 := by
 obtain ⟨h1, h2, h3⟩ := exprP_tree exprPA
 have hv : valueR [] rqP (exprP pA).1 = .ok [bN true] := by
   unfold valueR
   rw [if_neg (by simp [ent_no]), if_neg (by simp [rq_P]), if_neg (by simp [h3])]
   show evX [] rqP (exprP pA).1 = _
   rw [h2, pol_means [] rqP rq_P polA (by simp [pA]) (by simp [pA])]
   have hs : scopesB [] rqP pA = true := by simp [scopesB, fitsB, pA]
   rw [if_pos hs]
   rfl
 unfold vtQ
 show (match valueR [] rqP (exprP pA).1 with | .ok v => if opH v = 1 then (if nH v = 1 then (1 : Int) else 0) else -1 | .bad _ => -1) = 1
 rw [hv]; rfl
def xA (qa : Option Addr) (qc : Nat) : Aq := ⟨[], [], none, 0, rqP, qa, qc⟩
theorem askA (qa : Option Addr) (qc : Nat) : askErr (xA qa qc) [pmA] = 0 := by
 have h : aErr [pmA] = 0 := by
   refine (auth_ok nmQ pe1Q pe2Q [pmA]).2 ⟨by simp, fun p hp => ?_, by simp⟩
   simp at hp
   subst hp
   refine ⟨polA, ?_⟩
   show (if (exprP pA).2 ≠ 0 then (exprP pA).2 else if slotsP pA = [] then 0 else 1) = 0
   rw [if_neg (by simp [exprPA])]
   exact if_pos rfl
 unfold askErr firstI
 rw [show (xA qa qc).es = [] from rfl, show (xA qa qc).q = rqP from rfl, if_neg (by simp [ent_no]), if_neg (by simp [h]), rq_P]
theorem posA (W : World) (T : TypeId) : PosIn (W.alloc (.cells #[.string pA.name, .bool pA.forbid, .int .i64 pA.who.op, .string pA.who.ty, .string pA.who.uid.ty, .string pA.who.uid.id, .int .i64 pA.act.op, .string pA.act.ty, .string pA.act.uid.ty, .string pA.act.uid.id, .int .i64 pA.what.op, .string pA.what.ty, .string pA.what.uid.ty, .string pA.what.uid.id, .slice none 0 0] T)) (some ⟨W.heap.size, 0, none⟩) [pmA] := by
 refine ⟨fun _ => ⟨W.heap.size, 0, rfl, by simp, fun i x hx => ?_⟩, fun x hx => ?_⟩
 · cases i with
   | succ i => simp at hx
   | zero =>
     simp at hx; subst hx
     intro j u hu
     rw [World.cell?_alloc_new]
     simp only [Nat.zero_mul, Nat.zero_add]
     rw [← hu]
     simp [PoM.cells, pmA]
 · simp at hx; subst hx
   exact ⟨rfl, Nat.le_refl _, by show 0 ≤ 9223372036854775807; omega, ⟨by decide, ⟨by decide, by decide, by decide⟩, ⟨by decide, by decide, by decide⟩, ⟨by decide, by decide, by decide⟩⟩, ⟨SlG.nil _ _ _, by simp [pmA]⟩, by simp [pmA]⟩
theorem aqA {w : World} (hg : ErrCell w) {qa : Option Addr} {qc : Nat} (h1 : NdSl w w.heap.size qa [nR]) (h2 : 1 ≤ qc ∧ qc ≤ 9223372036854775807) : AqIn (xA qa qc) w := by
 have hr : NdOk [nR] := by intro x hx; simp at hx; subst hx; exact ⟨Nat.zero_le _, Nat.zero_le _⟩
 have hri : NdI [nR] := by intro x hx; simp at hx; subst hx; unfold I64 nR; simp
 have hu : UdOk uA := ⟨by simp [uA, ByteArray.size], Nat.zero_le _⟩
 exact ⟨ents_no w, by simp [xA], Nat.le_refl _, h1, h2, hr, hri, ⟨hu, hu, hu⟩, hg⟩
theorem str_at' {w : World} {B : Nat} {A : Option Addr} {ss : List (List UInt8)} (h : StrSl w B A ss) {i : Nat} {x : List UInt8} (hx : ss[i]? = some x) : ∃ b o, A = some ⟨b, o, none⟩ ∧ b < B ∧ ∀ j l, ss[j]? = some l → ∃ s : ByteArray, w.cell? ⟨b, o + j, none⟩ = some (.string s) ∧ s.toList = l := by
 obtain ⟨b, o, e, hb, hc⟩ := h.at_ (List.getElem?_eq_some_iff.1 hx).1
 exact ⟨b, o, e, hb, fun j l hl => ⟨bsL l, hc j l hl, bsL_toList l⟩⟩
theorem law_among (s : ByteArray) (ss : List (List UInt8)) (A : Option Addr) (c : Nat) (w : World) (hs : StrSl w w.heap.size A ss) (hl : ss.length ≤ 9223372036854775807) :
   Calls Tryz.prog 36 #[.string s, .slice A ss.length c] w fun e w' => e = .returned (.bool (ss.contains s.toList)) ∧ w = w' := by
 obtain ⟨q, hq⟩ : ∃ q, ss.contains s.toList = q := ⟨_, rfl⟩
 rw [hq]
 have HQ := Lib.hid hq
 have HS := Lib.hid hs
 clear hq hs
 go_enter Tryz.func36, Tryz.ntmps36
 go_wp2_with fail
 go_loop [5] (fun ii => ∃ k : Nat, ii = .int .i64 k ∧ k ≤ ss.length ∧ Hid (s.toList ∉ ss.take k)) (fun ii => ss.length - (intOf ii).toNat)
 case atStart => exact ⟨0, rfl, by omega, by simp [Hid]⟩
 case round =>
   obtain ⟨k, rfl, hk, HK⟩ := hrel
   by_cases hlt : k < ss.length
   · obtain ⟨x, hx⟩ : ∃ x, ss[k]? = some x := ⟨_, List.getElem?_eq_getElem hlt⟩
     obtain ⟨b, o, rfl, hb, hcs⟩ := str_at' HS.out hx
     obtain ⟨sx, c0, hsx⟩ := hcs k x hx
     have HX := Lib.hid hx
     have HSX := Lib.hid hsx
     clear hx hcs hsx
     by_cases hm : sx.toList = s.toList
     · have tm : (sx.toList == s.toList) = true := by simp [hm]
       have hv : Hid (q = true) := by
         show _ = _
         rw [← HQ.out, ← hm, HSX.out]
         simpa using List.mem_of_getElem? HX.out
       clear hm
       go_wp2_with fail
       go_ret
       rw [hv.out]
       exact ⟨rfl, rfl⟩
     · have tm : (sx.toList == s.toList) = false := by simp [hm]
       have HK2 : Hid (s.toList ∉ ss.take (k + 1)) := by
         show _ ∉ _
         rw [List.take_add_one, HX.out]
         simp only [Option.toList, List.mem_append, List.mem_singleton, not_or]
         exact ⟨HK.out, fun h => hm (by rw [HSX.out, h])⟩
       clear hm
       go_wp2_with fail
       exact ⟨⟨k + 1, by go_num, by omega, HK2⟩, by simp [intOf]; omega⟩
   · have hv : Hid (q = false) := by
       show _ = _
       have := HK.out
       rw [List.take_of_length_le (by omega)] at this
       rw [← HQ.out]
       simpa using this
     go_wp2_with fail
     go_ret
     rw [hv.out]
     exact ⟨rfl, rfl⟩
set_option maxHeartbeats 6400000 in
theorem law_permitted (w : World) (hg : ErrCell w) : Calls Tryz.prog 33 #[] w fun r w' => r = .returned (.bool true) ∧ RowKit.Below w.heap.size w w' := by
 have h1 : RowKit.Below w.heap.size w (w.alloc (.cells #[.string ⟨#[65]⟩, .string ⟨#[]⟩] 34)) := by (repeat (first | assumption | exact Below.refl _ _ | apply Below.drew | apply below_drewN | (refine Below.alloc ?_ (by first | exact Nat.le_refl _ | omega | (simp; done) | (simp; omega)) _)))
 have h2 : RowKit.Below w.heap.size w ((w.alloc (.cells #[.string ⟨#[65]⟩, .string ⟨#[]⟩] 34)).alloc (.cells #[.string ⟨#[97]⟩, .bool false, .int .i64 0, .string ⟨#[]⟩, .string ⟨#[]⟩, .string ⟨#[]⟩, .int .i64 0, .string ⟨#[]⟩, .string ⟨#[]⟩, .string ⟨#[]⟩, .int .i64 0, .string ⟨#[]⟩, .string ⟨#[]⟩, .string ⟨#[]⟩, .slice none 0 0] 47)) := by (repeat (first | assumption | exact Below.refl _ _ | apply Below.drew | apply below_drewN | (refine Below.alloc ?_ (by first | exact Nat.le_refl _ | omega | (simp; done) | (simp; omega)) _)))
 have h3 : RowKit.Below w.heap.size w (((w.alloc (.cells #[.string ⟨#[65]⟩, .string ⟨#[]⟩] 34)).alloc (.cells #[.string ⟨#[97]⟩, .bool false, .int .i64 0, .string ⟨#[]⟩, .string ⟨#[]⟩, .string ⟨#[]⟩, .int .i64 0, .string ⟨#[]⟩, .string ⟨#[]⟩, .string ⟨#[]⟩, .int .i64 0, .string ⟨#[]⟩, .string ⟨#[]⟩, .string ⟨#[]⟩, .slice none 0 0] 47)).alloc (.cells #[.int .i64 6, .int .i64 0, .string ⟨#[]⟩, .string ⟨#[]⟩] 37)) := by (repeat (first | assumption | exact Below.refl _ _ | apply Below.drew | apply below_drewN | (refine Below.alloc ?_ (by first | exact Nat.le_refl _ | omega | (simp; done) | (simp; omega)) _)))
 have hp : PosIn (((w.alloc (.cells #[.string ⟨#[65]⟩, .string ⟨#[]⟩] 34)).alloc (.cells #[.string ⟨#[97]⟩, .bool false, .int .i64 0, .string ⟨#[]⟩, .string ⟨#[]⟩, .string ⟨#[]⟩, .int .i64 0, .string ⟨#[]⟩, .string ⟨#[]⟩, .string ⟨#[]⟩, .int .i64 0, .string ⟨#[]⟩, .string ⟨#[]⟩, .string ⟨#[]⟩, .slice none 0 0] 47)).alloc (.cells #[.int .i64 6, .int .i64 0, .string ⟨#[]⟩, .string ⟨#[]⟩] 37)) (some ⟨w.heap.size + 1, 0, none⟩) [pmA] := by
   have h := posA (w.alloc (.cells #[.string ⟨#[65]⟩, .string ⟨#[]⟩] 34)) 47
   rw [show (w.alloc (.cells #[.string ⟨#[65]⟩, .string ⟨#[]⟩] 34)).heap.size = w.heap.size + 1 from World.size_alloc _ _] at h
   exact h.later (by (repeat (first | assumption | exact Below.refl _ _ | apply Below.drew | apply below_drewN | (refine Below.alloc ?_ (by first | exact Nat.le_refl _ | omega | (simp; done) | (simp; omega)) _))))
 have hn : NdSl (((w.alloc (.cells #[.string ⟨#[65]⟩, .string ⟨#[]⟩] 34)).alloc (.cells #[.string ⟨#[97]⟩, .bool false, .int .i64 0, .string ⟨#[]⟩, .string ⟨#[]⟩, .string ⟨#[]⟩, .int .i64 0, .string ⟨#[]⟩, .string ⟨#[]⟩, .string ⟨#[]⟩, .int .i64 0, .string ⟨#[]⟩, .string ⟨#[]⟩, .string ⟨#[]⟩, .slice none 0 0] 47)).alloc (.cells #[.int .i64 6, .int .i64 0, .string ⟨#[]⟩, .string ⟨#[]⟩] 37)) (((w.alloc (.cells #[.string ⟨#[65]⟩, .string ⟨#[]⟩] 34)).alloc (.cells #[.string ⟨#[97]⟩, .bool false, .int .i64 0, .string ⟨#[]⟩, .string ⟨#[]⟩, .string ⟨#[]⟩, .int .i64 0, .string ⟨#[]⟩, .string ⟨#[]⟩, .string ⟨#[]⟩, .int .i64 0, .string ⟨#[]⟩, .string ⟨#[]⟩, .string ⟨#[]⟩, .slice none 0 0] 47)).alloc (.cells #[.int .i64 6, .int .i64 0, .string ⟨#[]⟩, .string ⟨#[]⟩] 37)).heap.size (some ⟨w.heap.size + 1 + 1, 0, none⟩) [nR] := by
   have h : NdSl (((w.alloc (.cells #[.string ⟨#[65]⟩, .string ⟨#[]⟩] 34)).alloc (.cells #[.string ⟨#[97]⟩, .bool false, .int .i64 0, .string ⟨#[]⟩, .string ⟨#[]⟩, .string ⟨#[]⟩, .int .i64 0, .string ⟨#[]⟩, .string ⟨#[]⟩, .string ⟨#[]⟩, .int .i64 0, .string ⟨#[]⟩, .string ⟨#[]⟩, .string ⟨#[]⟩, .slice none 0 0] 47)).alloc (.cells #[.int .i64 6, .int .i64 0, .string ⟨#[]⟩, .string ⟨#[]⟩] 37)) (((w.alloc (.cells #[.string ⟨#[65]⟩, .string ⟨#[]⟩] 34)).alloc (.cells #[.string ⟨#[97]⟩, .bool false, .int .i64 0, .string ⟨#[]⟩, .string ⟨#[]⟩, .string ⟨#[]⟩, .int .i64 0, .string ⟨#[]⟩, .string ⟨#[]⟩, .string ⟨#[]⟩, .int .i64 0, .string ⟨#[]⟩, .string ⟨#[]⟩, .string ⟨#[]⟩, .slice none 0 0] 47)).alloc (.cells #[.int .i64 6, .int .i64 0, .string ⟨#[]⟩, .string ⟨#[]⟩] 37)).heap.size (some ⟨((w.alloc (.cells #[.string ⟨#[65]⟩, .string ⟨#[]⟩] 34)).alloc (.cells #[.string ⟨#[97]⟩, .bool false, .int .i64 0, .string ⟨#[]⟩, .string ⟨#[]⟩, .string ⟨#[]⟩, .int .i64 0, .string ⟨#[]⟩, .string ⟨#[]⟩, .string ⟨#[]⟩, .int .i64 0, .string ⟨#[]⟩, .string ⟨#[]⟩, .string ⟨#[]⟩, .slice none 0 0] 47)).heap.size, 0, none⟩) [nR] := NdSl.of_flat (by simp) fun j u hu => by rw [World.cell?_alloc_new, ← hu]; simp [flat, Nd.cells, nR]
   rwa [show ((w.alloc (.cells #[.string ⟨#[65]⟩, .string ⟨#[]⟩] 34)).alloc (.cells #[.string ⟨#[97]⟩, .bool false, .int .i64 0, .string ⟨#[]⟩, .string ⟨#[]⟩, .string ⟨#[]⟩, .int .i64 0, .string ⟨#[]⟩, .string ⟨#[]⟩, .string ⟨#[]⟩, .int .i64 0, .string ⟨#[]⟩, .string ⟨#[]⟩, .string ⟨#[]⟩, .slice none 0 0] 47)).heap.size = w.heap.size + 1 + 1 from by rw [World.size_alloc, World.size_alloc]] at h
 have HA : Hid (Calls Tryz.prog 34 #[.slice none 0 0, .slice (some ⟨w.heap.size + 1, 0, none⟩) 1 1, .agg #[.string ⟨#[65]⟩, .string ⟨#[]⟩, .string ⟨#[65]⟩, .string ⟨#[]⟩, .string ⟨#[65]⟩, .string ⟨#[]⟩, .slice (some ⟨w.heap.size + 1 + 1, 0, none⟩) 1 1]] (((w.alloc (.cells #[.string ⟨#[65]⟩, .string ⟨#[]⟩] 34)).alloc (.cells #[.string ⟨#[97]⟩, .bool false, .int .i64 0, .string ⟨#[]⟩, .string ⟨#[]⟩, .string ⟨#[]⟩, .int .i64 0, .string ⟨#[]⟩, .string ⟨#[]⟩, .string ⟨#[]⟩, .int .i64 0, .string ⟨#[]⟩, .string ⟨#[]⟩, .string ⟨#[]⟩, .slice none 0 0] 47)).alloc (.cells #[.int .i64 6, .int .i64 0, .string ⟨#[]⟩, .string ⟨#[]⟩] 37)) fun r w' => ∃ A1 c1 A2 c2 n2, r = .returned (.tuple #[.agg #[.bool true, .slice A1 1 c1, .slice A2 n2 c2], .nilIface]) ∧ RowKit.Below (((w.alloc (.cells #[.string ⟨#[65]⟩, .string ⟨#[]⟩] 34)).alloc (.cells #[.string ⟨#[97]⟩, .bool false, .int .i64 0, .string ⟨#[]⟩, .string ⟨#[]⟩, .string ⟨#[]⟩, .int .i64 0, .string ⟨#[]⟩, .string ⟨#[]⟩, .string ⟨#[]⟩, .int .i64 0, .string ⟨#[]⟩, .string ⟨#[]⟩, .string ⟨#[]⟩, .slice none 0 0] 47)).alloc (.cells #[.int .i64 6, .int .i64 0, .string ⟨#[]⟩, .string ⟨#[]⟩] 37)).heap.size (((w.alloc (.cells #[.string ⟨#[65]⟩, .string ⟨#[]⟩] 34)).alloc (.cells #[.string ⟨#[97]⟩, .bool false, .int .i64 0, .string ⟨#[]⟩, .string ⟨#[]⟩, .string ⟨#[]⟩, .int .i64 0, .string ⟨#[]⟩, .string ⟨#[]⟩, .string ⟨#[]⟩, .int .i64 0, .string ⟨#[]⟩, .string ⟨#[]⟩, .string ⟨#[]⟩, .slice none 0 0] 47)).alloc (.cells #[.int .i64 6, .int .i64 0, .string ⟨#[]⟩, .string ⟨#[]⟩] 37)) w') := by
   have h := auth_Ask_ok (xA (some ⟨w.heap.size + 1 + 1, 0, none⟩) 1) [pmA] (some ⟨w.heap.size + 1, 0, none⟩) 1 (((w.alloc (.cells #[.string ⟨#[65]⟩, .string ⟨#[]⟩] 34)).alloc (.cells #[.string ⟨#[97]⟩, .bool false, .int .i64 0, .string ⟨#[]⟩, .string ⟨#[]⟩, .string ⟨#[]⟩, .int .i64 0, .string ⟨#[]⟩, .string ⟨#[]⟩, .string ⟨#[]⟩, .int .i64 0, .string ⟨#[]⟩, .string ⟨#[]⟩, .string ⟨#[]⟩, .slice none 0 0] 47)).alloc (.cells #[.int .i64 6, .int .i64 0, .string ⟨#[]⟩, .string ⟨#[]⟩] 37)) (aqA (hg.below h3 hg.lt) hn ⟨Nat.le_refl _, by omega⟩) hp (askA _ _)
   refine Calls.mono h ?_
   rintro r w' ⟨A1, c1, A2, c2, rfl, _, _, _, _, _, _, hb⟩
   have e1 : allowP nmQ fbQ (vtQ (xA (some ⟨w.heap.size + 1 + 1, 0, none⟩) 1).es (xA (some ⟨w.heap.size + 1 + 1, 0, none⟩) 1).q) [pmA] = true := alone_allow.2 ⟨vtA, rfl⟩
   have e2 : (byP nmQ fbQ (vtQ (xA (some ⟨w.heap.size + 1 + 1, 0, none⟩) 1).es (xA (some ⟨w.heap.size + 1 + 1, 0, none⟩) 1).q) [pmA]).length = 1 := by rw [alone_by]; exact if_pos vtA
   exact ⟨A1, c1, A2, c2, _, by rw [e1, e2, errV_zero], hb⟩
 have HC := Lib.hid h3
 clear h1 h2 h3 hp hn hg
 go_enter Tryz.func33, Tryz.ntmps33
 go_wp2_with fail
 refine HA.out.mono ?_
 rintro r w4 ⟨A1, c1, A2, c2, n2, rfl, hb4⟩
 have HB4 := Lib.hid (HC.out.trans (hb4.mono HC.out.size))
 clear hb4 HA
 go_wp2_with fail
 go_ret
 exact ⟨rfl, HB4.out.alloc HB4.out.size _⟩
end Go.Proofs.YtpheiojmcafolaaGreatDoor
namespace Go.Proofs.YtpheiojmcafolaaGreatDoor
set_option maxRecDepth 100000
open Go.RowKit Go.Sort
set_option maxHeartbeats 3200000 in
theorem law_alike (xs ys : List (List UInt8)) (A1 A2 : Option Addr) (c1 c2 : Nat) (w : World) (h1 : StrSl w w.heap.size A1 xs) (h2 : StrSl w w.heap.size A2 ys) (hm : ∀ x ∈ xs, x ∈ ys) (hl : xs.length = ys.length) (hx : xs.length ≤ 1000) :
   Calls Tryz.prog 35 #[.slice A1 xs.length c1, .slice A2 ys.length c2] w fun r w' => r = .returned (.bool true) ∧ w' = w := by
 have HA : Hid (∀ l ∈ xs, Calls Tryz.prog 36 #[.string (bsL l), .slice A2 ys.length c2] w fun r w' => r = .returned (.bool true) ∧ w = w') := by
   intro l hl'
   have h := law_among (bsL l) ys A2 c2 w h2 (by omega)
   rw [bsL_toList, show ys.contains l = true from by simpa using hm l hl'] at h
   exact h
 have HS := Lib.hid h1
 have hlen : ((xs.length : Int) == (ys.length : Int)) = true := by simp [hl]
 clear h1 h2 hm hl
 go_enter Tryz.func35, Tryz.ntmps35
 go_wp2_with fail
 go_loop [5] (fun ii => ∃ k : Nat, ii = .int .i64 k ∧ k ≤ xs.length) (fun ii => xs.length - (intOf ii).toNat)
 case atStart => exact ⟨0, rfl, by omega⟩
 case round =>
   obtain ⟨k, rfl, hk⟩ := hrel
   by_cases hlt : k < xs.length
   · obtain ⟨x, hx'⟩ : ∃ x, xs[k]? = some x := ⟨_, List.getElem?_eq_getElem hlt⟩
     obtain ⟨b, o, rfl, hb, hcs⟩ := HS.out.at_ hlt
     have c0 : w.cell? ⟨b, o + k, none⟩ = some (.string (bsL x)) := hcs k x hx'
     have HX := Lib.hid (HA.out x (List.mem_of_getElem? hx'))
     clear hcs hx'
     go_wp2_with fail
     refine HX.out.mono ?_
     rintro r w2 ⟨rfl, rfl⟩
     go_wp2_with fail
     exact ⟨⟨k + 1, by go_num, by omega⟩, by simp [intOf]; omega⟩
   · go_wp2_with fail
     go_ret
     exact ⟨rfl, rfl⟩
theorem pigeon : ∀ (n : Nat) (l : List Nat), l.Nodup → (∀ x ∈ l, x < n) → l.length ≤ n
 | 0, l, _, h => by
   cases l with
   | nil => exact Nat.le_refl _
   | cons a r => exact absurd (h a (by simp)) (by omega)
 | n + 1, l, hn, h => by
   have h1 := pigeon n (l.erase n) (hn.erase n) (fun x hx => by
     have h2 := h x (List.mem_of_mem_erase hx)
     have h3 : x ≠ n := fun e => by rw [e] at hx; exact (hn.not_mem_erase) hx
     omega)
   have h2 : l.length ≤ (l.erase n).length + 1 := by rw [List.length_erase]; split <;> omega
   omega
theorem perm_range {n : Nat} {l : List Nat} (hn : l.Nodup) (h : ∀ x ∈ l, x < n) (hl : l.length = n) : l.Perm (List.range n) := by
 refine (List.perm_ext_iff_of_nodup hn List.nodup_range).2 fun x => ?_
 rw [List.mem_range]
 refine ⟨h x, fun hx => ?_⟩
 apply Classical.byContradiction
 intro hc
 have := pigeon n (x :: l) (List.nodup_cons.2 ⟨hc, hn⟩) (fun y hy => by
   rcases List.mem_cons.1 hy with rfl | hy
   · exact hx
   · exact h y hy)
 rw [List.length_cons] at this
 omega
structure OkO {α : Type} (ps : List α) (ks : List Int) (i : Nat) (os : List α) : Prop where
 len : os.length = i
 each : ∀ j k, j < i → ks[j]? = some k → 0 ≤ k ∧ k < ps.length ∧ os[j]? = ps[k.toNat]?
 nd : ∀ (j j' : Nat) (k k' : Int), j < j' → j' < i → ks[j]? = some k → ks[j']? = some k' → k ≠ k'
theorem okO_zero {α : Type} (ps : List α) (ks : List Int) : OkO ps ks 0 [] := ⟨rfl, fun j k h => by omega, fun j j' k k' h h' => by omega⟩
theorem okO_next {α : Type} {ps : List α} {ks : List Int} {i : Nat} {os : List α} (h : OkO ps ks i os) {k : Int} (hk : ks[i]? = some k) (h0 : 0 ≤ k) {y : α} (hy : ps[k.toNat]? = some y) (hn : ∀ j k', j < i → ks[j]? = some k' → k' ≠ k) : OkO ps ks (i + 1) (os ++ [y]) := by
 have hkl : k.toNat < ps.length := (List.getElem?_eq_some_iff.1 hy).1
 refine ⟨by simp [h.len], fun j k' hj hk' => ?_, fun j j' k1 k2 h1 h2 e1 e2 => ?_⟩
 · rcases Nat.lt_or_ge j i with hlt | hge
   · obtain ⟨a, b, c⟩ := h.each j k' hlt hk'
     exact ⟨a, b, by rw [List.getElem?_append_left (by rw [h.len]; exact hlt)]; exact c⟩
   · obtain rfl : j = i := by omega
     rw [hk] at hk'; injection hk' with hk'; subst hk'
     exact ⟨h0, by omega, by rw [List.getElem?_append_right (by rw [h.len]; exact Nat.le_refl _), h.len, Nat.sub_self, hy]; rfl⟩
 · rcases Nat.lt_or_ge j' i with hlt | hge
   · exact h.nd j j' k1 k2 h1 hlt e1 e2
   · obtain rfl : j' = i := by omega
     rw [hk] at e2; injection e2 with e2; subst e2
     exact hn j k1 h1 e1
theorem okO_perm {α : Type} {ps : List α} {ks : List Int} {os : List α} (h : OkO ps ks ks.length os) (hl : ks.length = ps.length) : os.Perm ps := by
 have h1 : (ks.map Int.toNat).Perm (List.range ps.length) := by
   refine perm_range ?_ ?_ (by simp [hl])
   · rw [List.Nodup, List.pairwise_iff_getElem]
     intro i j hi hj hij e
     rw [List.length_map] at hi hj
     rw [List.getElem_map, List.getElem_map] at e
     have a := h.each i ks[i] hi (List.getElem?_eq_getElem hi)
     have b := h.each j ks[j] hj (List.getElem?_eq_getElem hj)
     exact h.nd i j ks[i] ks[j] hij hj (List.getElem?_eq_getElem hi) (List.getElem?_eq_getElem hj) (by omega)
   · intro x hx
     obtain ⟨k, hk, rfl⟩ := List.mem_map.1 hx
     obtain ⟨j, hj⟩ := List.mem_iff_getElem?.1 hk
     have := h.each j k (List.getElem?_eq_some_iff.1 hj).1 hj
     omega
 have h2 : os = (ks.map Int.toNat).filterMap (fun i => ps[i]?) := by
   apply List.ext_getElem?
   intro j
   have key : ∀ (l : List Nat), (∀ x ∈ l, x < ps.length) → (l.filterMap fun i => ps[i]?)[j]? = (l[j]?).bind fun i => ps[i]? := by
     intro l hb
     induction l generalizing j with
     | nil => simp
     | cons a r ih =>
       have ha := hb a (by simp)
       rw [List.filterMap_cons, List.getElem?_eq_getElem ha]
       cases j with
       | zero => simp [ha]
       | succ j => simpa using ih j fun x hx => hb x (by simp [hx])
   rw [key _ (fun x hx => by
     obtain ⟨k, hk, rfl⟩ := List.mem_map.1 hx
     obtain ⟨j, hj⟩ := List.mem_iff_getElem?.1 hk
     have := h.each j k (List.getElem?_eq_some_iff.1 hj).1 hj
     omega), List.getElem?_map]
   cases hk : ks[j]? with
   | none =>
     rw [List.getElem?_eq_none_iff] at hk
     rw [List.getElem?_eq_none_iff.2 (by rw [h.len]; exact hk)]; rfl
   | some k =>
     rw [(h.each j k (List.getElem?_eq_some_iff.1 hk).1 hk).2.2]; rfl
 rw [h2]
 refine (h1.filterMap _).trans (List.Perm.of_eq ?_)
 have : ∀ (l : List α), (List.range l.length).filterMap (fun i => l[i]?) = l := by
   intro l
   induction l with
   | nil => rfl
   | cons a r ih =>
     rw [List.length_cons, List.range_succ_eq_map, List.filterMap_cons]
     simp only [List.getElem?_cons_zero, List.filterMap_map]
     congr 1
 exact this ps
theorem auth_perm {ps qs : List PoM} (h : ps.Perm qs) (h0 : aErr ps = 0) : aErr qs = 0 := by
 obtain ⟨h1, h2, h3⟩ := (auth_ok nmQ pe1Q pe2Q ps).1 h0
 exact (auth_ok nmQ pe1Q pe2Q qs).2 ⟨by rw [← h.length_eq]; exact h1, fun p hp => h2 p (h.mem_iff.2 hp), (h.map nmQ).nodup_iff.1 h3⟩
end Go.Proofs.YtpheiojmcafolaaGreatDoor
