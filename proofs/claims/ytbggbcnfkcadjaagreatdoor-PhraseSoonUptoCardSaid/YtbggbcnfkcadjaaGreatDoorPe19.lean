/-
  THE WALKS of the reference: Spelt.
  PLAIN LAWS: from the left.
  THE WALK of the law PhraseLeft.
  THE WALK of the law PhraseSoon.
-/
import Derived.Test.YtbggbcnfkcadjaaGreatDoorPe18
import Derived.BigQuiet
import Derived.Test.YtbggbcnfkcadjaaGreatDoorPe11
import Derived.Test.YtbggbcnfkcadjaaGreatDoorPe05
import Derived.Test.YtbggbcnfkcadjaaGreatDoorPe12
import Derived.Test.YtbggbcnfkcadjaaGreatDoorPe14
import Derived.Test.YtbggbcnfkcadjaaGreatDoorPe15
import Derived.Test.YtbggbcnfkcadjaaGreatDoorPe16
import Derived.Test.YtbggbcnfkcadjaaGreatDoorPe17
namespace Go.Proofs.YtbggbcnfkcadjaaGreatDoor
open Go.RowKit
def SptPost (x : Tk) (w : World) (e : Ending) (w' : World) : Prop :=
 ∃ tx : List UInt8, e = .returned (.tuple #[encStr tx, .bool (speltP x).2]) ∧ ((speltP x).2 = true → tx = (speltP x).1) ∧ Below w.heap.size w w'
set_option maxRecDepth 100000 in
set_option maxHeartbeats 1600000 in
theorem r2_Spelt3 (x : Tk) (w : World) (hx : x.s.size ≤ 140737488351232) (h3 : x.kind = 3) :
   Calls Tryz.prog 19 #[.agg #[.int .i64 x.kind, .string x.s, .int .i64 x.at_]] w (SptPost x w) := by
 have t3 : (x.kind == 3) = true := by simp [h3]
 have hv := speltP_text h3
 have HV : Hid ((speltP x).2 = (textErr x.s.toList == 0)) := by
   show _ = _
   rw [hv]
   by_cases h : textErr x.s.toList = 0 <;> simp [h]
 have HT : Hid ((speltP x).2 = true → 34 :: (escP x.s.toList ++ [34]) = (speltP x).1) := by
   intro h
   rw [hv] at h ⊢
   by_cases h0 : textErr x.s.toList = 0
   · rw [if_pos h0, quoteV, if_pos h0]
   · rw [if_neg h0] at h; cases h
 have HQ := Lib.hid (fun W => (r1_Quoted x.s W hx).mono fun _ _ h => (⟨h.1, h.2.symm⟩ : _ ∧ _ = W))
 have HF := Lib.hid (fun W => (r1_TextFault x.s W hx).mono fun _ _ h => (⟨h.1, h.2.symm⟩ : _ ∧ _ = W))
 clear hv h3
 go_enter Tryz.func19, Tryz.ntmps19
 go_wp2_with fail
 go_quiet ((first | (go_at_call 34; exact Calls.quiet_of_same (HQ.out _)) | (go_at_call 35; exact Calls.quiet_of_same (HF.out _))))
 go_wp2_with fail
 refine bodyPost_ret (results_tmp2 rfl _ _ _) rfl ?_
 exact ⟨_, by rw [HV.out]; rfl, HT.out, by (repeat (first | assumption | exact Below.refl _ _ | apply Below.drew | apply below_drewN | (refine Below.alloc ?_ (by first | exact Nat.le_refl _ | omega | (simp; done) | (simp; omega)) _)))⟩
theorem slot_text (s : ByteArray) : (⟨#[63]⟩ : ByteArray) ++ s = bsOf (63 :: s.toList) := by
 apply ByteArray.ext
 rw [ByteArray.data_append, ByteArray.toList_eq]
 show _ = (63 :: s.data.toList).toArray
 apply Array.toList_inj.1
 simp
set_option maxRecDepth 100000 in
set_option maxHeartbeats 1600000 in
theorem r2_Spelt4 (x : Tk) (w : World) (hx : x.s.size ≤ 140737488351232) (h4 : x.kind = 4) :
   Calls Tryz.prog 19 #[.agg #[.int .i64 x.kind, .string x.s, .int .i64 x.at_]] w (SptPost x w) := by
 have h3 : ¬ x.kind = 3 := by omega
 have t3 : (x.kind == 3) = false := by simp [h3]
 have t4 : (x.kind == 4) = true := by simp [h4]
 have hv := speltP_slot h4
 have HV : Hid ((speltP x).2 = (nameErr x.s.toList == 0)) := by
   show _ = _
   rw [hv]; rw [Bool.eq_iff_iff]; simp
 have HT : Hid ((speltP x).2 = true → 63 :: x.s.toList = (speltP x).1) := by
   intro h
   rw [speltP_fst h, speltT, if_neg h3, if_pos h4]
 have HF := Lib.hid (fun W => (r1_NameFault x.s W hx).mono fun _ _ h => (⟨h.1, h.2.symm⟩ : _ ∧ _ = W))
 clear hv h3 h4
 go_enter Tryz.func19, Tryz.ntmps19
 go_wp2_with fail
 go_quiet ((go_at_call 36; exact Calls.quiet_of_same (HF.out _)))
 go_wp2_with fail
 refine bodyPost_ret (results_tmp2 rfl _ _ _) rfl ?_
 exact ⟨63 :: x.s.toList, by rw [HV.out, encStr_bs, ← slot_text]; rfl, HT.out, by (repeat (first | assumption | exact Below.refl _ _ | apply Below.drew | apply below_drewN | (refine Below.alloc ?_ (by first | exact Nat.le_refl _ | omega | (simp; done) | (simp; omega)) _)))⟩
structure SwAt (x : Tk) (W w : World) : Prop where
 on : Below W.heap.size W w
 c0 : w.cell? ⟨W.heap.size, 0, none⟩ = some (.int .i64 x.kind)
 c1 : w.cell? ⟨W.heap.size, 1, none⟩ = some (.string x.s)
 lt : W.heap.size < w.heap.size
theorem SwAt.new (x : Tk) (W : World) : SwAt x W (W.alloc (.cells #[.int .i64 x.kind, .string x.s, .int .i64 x.at_] 42)) :=
 ⟨(Below.refl _ _).alloc (Nat.le_refl _) _, by rw [World.cell?_alloc_new]; rfl, by rw [World.cell?_alloc_new]; rfl, by simp⟩
theorem SwAt.later {x : Tk} {W w w' : World} (h : SwAt x W w) (hb : Below w.heap.size w w') : SwAt x W w' :=
 ⟨h.on.trans (hb.mono h.on.size), (hb.cell (p := ⟨W.heap.size, 0, none⟩) h.lt).trans h.c0, (hb.cell (p := ⟨W.heap.size, 1, none⟩) h.lt).trans h.c1, Nat.lt_of_lt_of_le h.lt hb.size⟩
set_option maxRecDepth 100000 in
set_option maxHeartbeats 3200000 in
theorem r2_Spelt0 (x : Tk) (w : World) (hx : x.s.size ≤ 140737488351232) (h3 : ¬ x.kind = 3) (h4 : ¬ x.kind = 4) :
   Calls Tryz.prog 19 #[.agg #[.int .i64 x.kind, .string x.s, .int .i64 x.at_]] w (SptPost x w) := by
 have t3 : (x.kind == 3) = false := by simp [h3]
 have t4 : (x.kind == 4) = false := by simp [h4]
 have hv := speltP_bare h3 h4
 have HT : Hid ((speltP x).2 = true → x.s.toList = (speltP x).1) := by
   intro h
   rw [speltP_fst h, speltT, if_neg h3, if_neg h4]
 clear h3 h4
 by_cases h0 : 0 < x.s.size
 · have hl0 : ((x.s.size : Int) == 0) = false := beq_eq_false_iff_ne.2 (by omega)
   obtain ⟨r, hs⟩ : ∃ r, x.s.toList = x.s[0] :: r := ⟨_, by have := toList_drop x.s 0 h0; rwa [List.drop_zero] at this⟩
   have hi0 := run_index_str x.s 0 h0
   by_cases e32 : x.s[0] = 32
   · have t32 : ((x.s[0].toNat : Int) == 32) = true := beq_lit e32
     have HV : Hid ((speltP x).2 = false) := by show _ = _; rw [hv, hs, e32]; rfl
     clear hv hs e32
     go_enter Tryz.func19, Tryz.ntmps19
     go_wp2_with fail
     refine bodyPost_ret (results_tmp2 rfl _ _ _) rfl ?_
     exact ⟨[], by rw [HV.out]; rfl, (by rw [HV.out]; intro h; cases h), by (repeat (first | assumption | exact Below.refl _ _ | apply Below.drew | apply below_drewN | (refine Below.alloc ?_ (by first | exact Nat.le_refl _ | omega | (simp; done) | (simp; omega)) _)))⟩
   · by_cases e34 : x.s[0] = 34
     · have t32 : ((x.s[0].toNat : Int) == 32) = false := bne_lit e32
       have t34 : ((x.s[0].toNat : Int) == 34) = true := beq_lit e34
       have HV : Hid ((speltP x).2 = false) := by show _ = _; rw [hv, hs, e34]; rfl
       clear hv hs e32 e34
       go_enter Tryz.func19, Tryz.ntmps19
       go_wp2_with fail
       refine bodyPost_ret (results_tmp2 rfl _ _ _) rfl ?_
       exact ⟨[], by rw [HV.out]; rfl, (by rw [HV.out]; intro h; cases h), by (repeat (first | assumption | exact Below.refl _ _ | apply Below.drew | apply below_drewN | (refine Below.alloc ?_ (by first | exact Nat.le_refl _ | omega | (simp; done) | (simp; omega)) _)))⟩
     · by_cases e63 : x.s[0] = 63
       · have t32 : ((x.s[0].toNat : Int) == 32) = false := bne_lit e32
         have t34 : ((x.s[0].toNat : Int) == 34) = false := bne_lit e34
         have t63 : ((x.s[0].toNat : Int) == 63) = true := beq_lit e63
         have HV : Hid ((speltP x).2 = false) := by show _ = _; rw [hv, hs, e63]; rfl
         clear hv hs e32 e34 e63
         go_enter Tryz.func19, Tryz.ntmps19
         go_wp2_with fail
         refine bodyPost_ret (results_tmp2 rfl _ _ _) rfl ?_
         exact ⟨[], by rw [HV.out]; rfl, (by rw [HV.out]; intro h; cases h), by (repeat (first | assumption | exact Below.refl _ _ | apply Below.drew | apply below_drewN | (refine Below.alloc ?_ (by first | exact Nat.le_refl _ | omega | (simp; done) | (simp; omega)) _)))⟩
       · have t32 : ((x.s[0].toNat : Int) == 32) = false := bne_lit e32
         have t34 : ((x.s[0].toNat : Int) == 34) = false := bne_lit e34
         have t63 : ((x.s[0].toNat : Int) == 63) = false := bne_lit e63
         have hbare : bareP x.kind x.s.toList = (match wordP x.s.toList with
             | .ok k t n => decide (n = x.s.toList.length) && decide (k = x.kind) && decide (t = x.s.toList)
             | .bad _ => false) := by
           have c1 : (x.s[0] == 32) = false := by simpa using e32
           have c2 : (x.s[0] == 34) = false := by simpa using e34
           have c3 : (x.s[0] == 63) = false := by simpa using e63
           rw [hs, bareP, c1, c2, c3]; rfl
         rw [hbare] at hv
         have HWD := Lib.hid (fun W => r2_Word x.s 0 W hx h0)
         simp only [List.drop_zero] at HWD
         obtain ⟨q, hq⟩ : ∃ q, wordP x.s.toList = q := ⟨_, rfl⟩
         rw [hq] at hv HWD
         cases q with
         | bad k =>
           have hk : ¬ k = 0 := fun e => wordP_ne0 (e ▸ hq)
           have tk : (k == 0) = false := by simp [hk]
           have HV : Hid ((speltP x).2 = false) := hv
           clear hv hs e32 e34 e63 hbare hq hk
           go_enter Tryz.func19, Tryz.ntmps19
           go_wp2_with fail
           have hsw := SwAt.new x w
           refine Calls.mono (HWD.out _) ?_
           rintro e w1 ⟨he, hb1⟩
           have he : e = .returned (.tuple #[.agg #[.int .i64 0, .string ⟨#[]⟩, .int .i64 0], .int .i64 0, .int .i64 k]) := he
           subst he
           have hsw1 := hsw.later hb1
           clear hsw hb1
           obtain ⟨hon, d0, d1, hlt⟩ := hsw1
           go_wp2_with fail
           go_quiet (fail)
           go_wp2_with fail
           refine bodyPost_ret (results_tmp2 rfl _ _ _) rfl ?_
           exact ⟨x.s.toList, by rw [HV.out, encStr_of]; rfl, HT.out, below_drewN (hon.alloc hon.size _) _⟩
         | ok k t n =>
           have hlen := toList_len x.s
           by_cases n1 : n = x.s.size
           · have tn : ((n : Int) == (x.s.size : Int)) = true := beq_iff_eq.2 (by omega)
             by_cases n2 : k = x.kind
             · have tk : (k == x.kind) = true := beq_iff_eq.2 n2
               by_cases n3 : t = x.s.toList
               · have tt : ((bsOf t).toList == x.s.toList) = true := by rw [bsOf_list]; exact beq_iff_eq.2 n3
                 have HV : Hid ((speltP x).2 = true) := by show _ = _; rw [hv]; simp [n1, n2, n3, hlen]
                 clear hv hs e32 e34 e63 hbare hq n1 n2 n3 hlen
                 go_enter Tryz.func19, Tryz.ntmps19
                 go_wp2_with fail
                 have hsw := SwAt.new x w
                 refine Calls.mono (HWD.out _) ?_
                 rintro e w1 ⟨he, hb1⟩
                 have he : e = .returned (.tuple #[.agg #[.int .i64 k, .string (bsOf t), .int .i64 0], .int .i64 (0 + n), .int .i64 0]) := he
                 rw [Int.zero_add] at he
                 subst he
                 have hsw1 := hsw.later hb1
                 clear hsw hb1
                 obtain ⟨hon, d0, d1, hlt⟩ := hsw1
                 go_wp2_with fail
                 go_quiet (fail)
                 go_wp2_with fail
                 refine bodyPost_ret (results_tmp2 rfl _ _ _) rfl ?_
                 exact ⟨x.s.toList, by rw [HV.out, encStr_of]; rfl, HT.out, below_drewN (hon.alloc hon.size _) _⟩
               · have tt : ((bsOf t).toList == x.s.toList) = false := by rw [bsOf_list]; exact beq_eq_false_iff_ne.2 n3
                 have HV : Hid ((speltP x).2 = false) := by show _ = _; rw [hv]; simp [n3]
                 clear hv hs e32 e34 e63 hbare hq n1 n2 n3 hlen
                 go_enter Tryz.func19, Tryz.ntmps19
                 go_wp2_with fail
                 have hsw := SwAt.new x w
                 refine Calls.mono (HWD.out _) ?_
                 rintro e w1 ⟨he, hb1⟩
                 have he : e = .returned (.tuple #[.agg #[.int .i64 k, .string (bsOf t), .int .i64 0], .int .i64 (0 + n), .int .i64 0]) := he
                 rw [Int.zero_add] at he
                 subst he
                 have hsw1 := hsw.later hb1
                 clear hsw hb1
                 obtain ⟨hon, d0, d1, hlt⟩ := hsw1
                 go_wp2_with fail
                 go_quiet (fail)
                 go_wp2_with fail
                 refine bodyPost_ret (results_tmp2 rfl _ _ _) rfl ?_
                 exact ⟨x.s.toList, by rw [HV.out, encStr_of]; rfl, HT.out, below_drewN (hon.alloc hon.size _) _⟩
             · have tk : (k == x.kind) = false := beq_eq_false_iff_ne.2 n2
               have HV : Hid ((speltP x).2 = false) := by show _ = _; rw [hv]; simp [n2]
               clear hv hs e32 e34 e63 hbare hq n1 n2 hlen
               go_enter Tryz.func19, Tryz.ntmps19
               go_wp2_with fail
               have hsw := SwAt.new x w
               refine Calls.mono (HWD.out _) ?_
               rintro e w1 ⟨he, hb1⟩
               have he : e = .returned (.tuple #[.agg #[.int .i64 k, .string (bsOf t), .int .i64 0], .int .i64 (0 + n), .int .i64 0]) := he
               rw [Int.zero_add] at he
               subst he
               have hsw1 := hsw.later hb1
               clear hsw hb1
               obtain ⟨hon, d0, d1, hlt⟩ := hsw1
               go_wp2_with fail
               go_quiet (fail)
               go_wp2_with fail
               refine bodyPost_ret (results_tmp2 rfl _ _ _) rfl ?_
               exact ⟨x.s.toList, by rw [HV.out, encStr_of]; rfl, HT.out, below_drewN (hon.alloc hon.size _) _⟩
           · have tn : ((n : Int) == (x.s.size : Int)) = false := beq_eq_false_iff_ne.2 (by omega)
             have HV : Hid ((speltP x).2 = false) := by show _ = _; rw [hv]; simp [hlen, n1]
             clear hv hs e32 e34 e63 hbare hq n1 hlen
             go_enter Tryz.func19, Tryz.ntmps19
             go_wp2_with fail
             have hsw := SwAt.new x w
             refine Calls.mono (HWD.out _) ?_
             rintro e w1 ⟨he, hb1⟩
             have he : e = .returned (.tuple #[.agg #[.int .i64 k, .string (bsOf t), .int .i64 0], .int .i64 (0 + n), .int .i64 0]) := he
             rw [Int.zero_add] at he
             subst he
             have hsw1 := hsw.later hb1
             clear hsw hb1
             obtain ⟨hon, d0, d1, hlt⟩ := hsw1
             go_wp2_with fail
             go_quiet (fail)
             go_wp2_with fail
             refine bodyPost_ret (results_tmp2 rfl _ _ _) rfl ?_
             exact ⟨x.s.toList, by rw [HV.out, encStr_of]; rfl, HT.out, below_drewN (hon.alloc hon.size _) _⟩
 · have h00 : x.s.toList = [] := toList_nil h0
   have hl0 : ((x.s.size : Int) == 0) = true := beq_iff_eq.2 (by omega)
   have HV : Hid ((speltP x).2 = false) := by show _ = _; rw [hv, h00]; rfl
   clear hv h00
   go_enter Tryz.func19, Tryz.ntmps19
   go_wp2_with fail
   refine bodyPost_ret (results_tmp2 rfl _ _ _) rfl ?_
   exact ⟨[], by rw [HV.out]; rfl, (by rw [HV.out]; intro h; cases h), by (repeat (first | assumption | exact Below.refl _ _ | apply Below.drew | apply below_drewN | (refine Below.alloc ?_ (by first | exact Nat.le_refl _ | omega | (simp; done) | (simp; omega)) _)))⟩
theorem r2_Spelt (x : Tk) (w : World) (hx : x.s.size ≤ 140737488351232) :
   Calls Tryz.prog 19 #[.agg #[.int .i64 x.kind, .string x.s, .int .i64 x.at_]] w (SptPost x w) := by
 by_cases h3 : x.kind = 3
 · exact r2_Spelt3 x w hx h3
 · by_cases h4 : x.kind = 4
   · exact r2_Spelt4 x w hx h4
   · exact r2_Spelt0 x w hx h3 h4
end Go.Proofs.YtbggbcnfkcadjaaGreatDoor
namespace Go.Proofs.YtbggbcnfkcadjaaGreatDoor
open Go.RowKit
def PT.ne : PT → Prop
 | .lp _ e => e ≠ [] | .po e => e ≠ [] | _ => True
end Go.Proofs.YtbggbcnfkcadjaaGreatDoor
namespace Go.Proofs.YtbggbcnfkcadjaaGreatDoor
set_option maxRecDepth 100000
open Go.RowKit Go.Sort
theorem small_tk {l : List UInt8} (k : Int) (h : l.length ≤ 60) : (⟨k, bsOf l, 0⟩ : Tk).s.size ≤ 140737488351232 := by show (bsOf l).size ≤ _; rw [bsOf_sz]; omega
structure TkArg (w : World) (A : Option Addr) (c : Nat) (ts : List Tk) : Prop where
 sl : TkSl w w.heap.size A ts
 le : ts.length ≤ c
 max : c ≤ 9223372036854775807
 z : ∀ x ∈ ts, x.s.size ≤ 140737488351232
end Go.Proofs.YtbggbcnfkcadjaaGreatDoor
namespace Go.Proofs.YtbggbcnfkcadjaaGreatDoor
set_option maxRecDepth 100000
open Go.RowKit Go.Sort
theorem ErrCell.far {w W : World} (h : ErrCell w) (hb : RowKit.Below w.heap.size w W) : ErrCell W := h.below hb h.lt
set_option maxHeartbeats 25600000 in
theorem law_soon (ts more : List Tk) (A1 A2 : Option Addr) (c1 c2 : Nat) (w : World) (ha : TkArg w A1 c1 ts) (hb : TkArg w A2 c2 more) (hn : ts.length + more.length ≤ 2097152) (hgl : GlC w) (hg : ErrCell w) (hng : 9 ≤ w.heap.size) :
   Calls Tryz.prog 7 #[.slice A1 ts.length c1, .slice A2 more.length c2] w fun r w' => r = .returned (.bool true) ∧ RowKit.Below w.heap.size w w' := by
 have HQK := Lib.hid (fun W => law_quick ⟨#[53, 32, 41]⟩ _ read_so.1 read_so.2 W (by decide))
 have HA := Lib.hid ha
 have HB := Lib.hid hb
 have HGL := Lib.hid hgl
 have HG := Lib.hid hg
 have HN := Lib.hid hn
 obtain ⟨us, hus⟩ : ∃ us, ts ++ more = us := ⟨_, rfl⟩
 have HU := Lib.hid hus
 have hul : us.length ≤ 2097152 := by rw [← hus, List.length_append]; exact hn
 clear ha hb hgl hg hn hus
 go_enter Tryz.func7, Tryz.ntmps7
 go_wp2_with fail
 refine (HQK.out w).mono ?_
 rintro r w1 ⟨Aq, cq, rfl, h1, hb1, h2, h3⟩
 have HB1 := Lib.hid hb1
 have HP := Lib.hid (phrase_Parse _ Aq cq w1 h2 h3 h1 (by intro x hx; simp only [List.mem_cons, List.not_mem_nil, or_false] at hx; rcases hx with rfl | rfl <;> exact small_tk _ (by decide)) (HGL.out.far hb1 hng) (Nat.le_trans hng hb1.size))
 rw [fact_so] at HP
 clear h1 hb1 h2 h3 HQK
 go_wp2_with fail
 refine HP.out.mono ?_
 rintro r w2 ⟨Af, cf, rfl, h1, h2, h3, hb2⟩
 have HB2 := Lib.hid (HB1.out.trans (hb2.mono HB1.out.size))
 have HE := Lib.hid (same_Err 1 1 w2 (HG.out.far HB2.out))
 clear h1 h2 h3 hb2 HP HB1
 go_wp2_with fail
 refine HE.out.mono ?_
 rintro r w3 ⟨rfl, hb3⟩
 have HB3 := Lib.hid (HB2.out.trans (hb3.mono HB2.out.size))
 clear hb3 HB2 HE
 have hz3 := HB3.out.size
 have HAP1 := Lib.hid (app_toks (base := w3.heap.size) (xs := []) (ys := ts) (c := c1) (own_zeroT (Blk.new w3 _ _) (Nat.le_refl _)) ((HA.out.sl.below HB3.out).below ((RowKit.Below.refl w.heap.size w3).alloc HB3.out.size _)) (by have := HN.out; simp; omega) (by simp))
 have HN2 : Hid (ts.length + more.length ≤ 4194304) := Nat.le_trans HN.out (by decide)
 by_cases h300 : 300 < us.length
 · have t300 : decide ((300 : Int) < (us.length : Int)) = true := by simp; omega
   clear h300
   go_wp2_with (first
     | (at_builtin; refine wpList_append_run rfl (.tmp 42) (.tmp 43) 23 rfl _ _ rfl rfl _ HAP1.out ?_; intro v6 w6 hr6; have HR6 := Lib.hid hr6; have HB6 : Hid (RowKit.Below w3.heap.size w3 w6) := ((RowKit.Below.refl w3.heap.size w3).alloc (Nat.le_refl _) _).grown hr6.grow (by simp) (fun q hq => by simp [Value.ownBlock] at hq; omega); have HAP2 := Lib.hid (app_toks (base := w3.heap.size) (xs := ts) (ys := more) (c := c2) hr6.own ((HB.out.sl.below HB3.out).below (HB6.out.mono hz3)) HN2.out HB6.out.size); clear hr6)
     | (at_builtin; refine wpList_append_run rfl (.tmp 45) (.tmp 46) 23 rfl _ _ rfl rfl _ HAP2.out ?_; intro v7 w7 hr7; have HB7 : Hid (RowKit.Below w3.heap.size w3 w7) := HB6.out.grown hr7.grow HB6.out.size (fun q hq => (own_lt HR6.out.own hq).1); have hr7 := hr7.own; rw [HU.out] at hr7; obtain ⟨A7, c7, hv7, hc7⟩ := own_sl hr7; subst hv7; have HR7 := Lib.hid (toks_form hr7).2.2; clear hr7))
   go_ret
   exact ⟨rfl, HB3.out.trans (HB7.out.mono hz3)⟩
 have t300 : decide ((300 : Int) < (us.length : Int)) = false := by simp; omega
 have HL := Lib.hid h300
 clear h300
 go_wp2_with (first
   | (at_builtin; refine wpList_append_run rfl (.tmp 42) (.tmp 43) 23 rfl _ _ rfl rfl _ HAP1.out ?_; intro v6 w6 hr6; have HR6 := Lib.hid hr6; have HB6 : Hid (RowKit.Below w3.heap.size w3 w6) := ((RowKit.Below.refl w3.heap.size w3).alloc (Nat.le_refl _) _).grown hr6.grow (by simp) (fun q hq => by simp [Value.ownBlock] at hq; omega); have HAP2 := Lib.hid (app_toks (base := w3.heap.size) (xs := ts) (ys := more) (c := c2) hr6.own ((HB.out.sl.below HB3.out).below (HB6.out.mono hz3)) HN2.out HB6.out.size); clear hr6)
   | (at_builtin; refine wpList_append_run rfl (.tmp 45) (.tmp 46) 23 rfl _ _ rfl rfl _ HAP2.out ?_; intro v7 w7 hr7; have HB7 : Hid (RowKit.Below w3.heap.size w3 w7) := HB6.out.grown hr7.grow HB6.out.size (fun q hq => (own_lt HR6.out.own hq).1); have hr7 := hr7.own; rw [HU.out] at hr7; obtain ⟨A7, c7, hv7, hc7⟩ := own_sl hr7; subst hv7; have HR7 := Lib.hid (toks_form hr7).2.2; clear hr7))
 have HBS := Lib.hid (HB3.out.trans (HB7.out.mono hz3))
 have HUS : Hid (TkSl w7 w7.heap.size A7 us) := HR7.out.2
 have hm7 := HR7.out.1
 clear HB7 HB6 HR6 HAP1 HAP2 HR7 hz3 HB3
 go_loopw [10] (fun ii wr => ∃ k : Nat, ii = .int .i64 k ∧ k ≤ us.length ∧ Hid (∀ t ∈ us.take k, SpT t) ∧ RowKit.Below w7.heap.size w7 wr) (fun ii _ => us.length - (intOf ii).toNat)
 case atStart => exact ⟨0, rfl, by omega, fun t ht => by simp at ht, RowKit.Below.refl _ _⟩
 case round =>
   obtain ⟨k, rfl, hk, HS, hbr⟩ := hrel
   have HBR := Lib.hid (HBS.out.trans (hbr.mono HBS.out.size))
   have hzr := hbr.size
   by_cases hlt : k < us.length
   case pos =>
     obtain ⟨x, hx⟩ : ∃ x, us[k]? = some x := ⟨_, List.getElem?_eq_getElem hlt⟩
     obtain ⟨b, o, rfl, hb, ⟨d0, d1, d2⟩⟩ := tkSl_at (HUS.out.below hbr) hx
     have HX := Lib.hid hx
     have hxz : x.s.size ≤ 140737488351232 := by
       have hm := List.mem_of_getElem? hx
       rw [← HU.out] at hm
       exact (List.mem_append.1 hm).elim (HA.out.z x) (HB.out.z x)
     have hbw : b < wr.heap.size := Nat.lt_of_lt_of_le hb hzr
     have HSP := Lib.hid (r2_Spelt x wr hxz)
     clear hx hxz
     go_wp2_with fail
     refine HSP.out.mono ?_
     rintro r w8 ⟨tx, rfl, -, hb8⟩
     cases hsp : (speltP x).2 with
     | false =>
       go_wp2_with fail
       go_ret
       exact ⟨rfl, HBR.out.trans (hb8.mono HBR.out.size)⟩
     | true =>
       have HST : Hid (∀ t ∈ us.take (k + 1), SpT t) := by
         show ∀ t ∈ us.take (k + 1), SpT t
         intro t ht
         rw [List.take_add_one, HX.out] at ht
         rcases List.mem_append.1 ht with ht | ht
         · exact HS.out t ht
         · simp at ht; subst ht; exact hsp
       have hb9 := hbr.trans (hb8.mono hzr)
       clear HS HSP HX hsp hb8 hbr
       go_wp2_with fail
       exact ⟨⟨k + 1, by go_num, by omega, HST, hb9⟩, by simp [intOf]; omega⟩
   case neg =>
     obtain rfl : k = us.length := by omega
     have HSA : Hid (∀ t ∈ us, SpT t) := by
       show ∀ t ∈ us, SpT t
       have := HS.out
       rwa [List.take_length] at this
     clear HS hk hlt
     have HT := Lib.hid (phrase_Parse ts A1 c1 wr HA.out.le HA.out.max ((HA.out.sl.below HBR.out).more HBR.out.size) HA.out.z (HGL.out.far HBR.out hng) (Nat.le_trans hng HBR.out.size))
     obtain ⟨⟨e, a, k1⟩, hq⟩ : ∃ q, parseP ts = q := ⟨_, rfl⟩
     rw [hq] at HT
     have HQ := Lib.hid hq
     clear hq
     go_wp2_with fail
     refine HT.out.mono ?_
     rintro r w8 ⟨A8, c8, rfl, -, -, -, hb8⟩
     have HB8 := Lib.hid (HBR.out.trans (hb8.mono HBR.out.size))
     have HBU := Lib.hid (hbr.trans (hb8.mono hzr))
     clear hb8 HT hbr hzr HBR
     by_cases k0 : k1 = 0
     · subst k0
       go_wp2_with fail
       go_ret
       exact ⟨rfl, HB8.out⟩
     have tk : (k1 == 0) = false := by simpa using k0
     by_cases ha : ts.length ≤ a
     · have ta : decide (ts.length ≤ a) = true := by simpa using ha
       have ta' : decide ((ts.length : Int) ≤ (a : Int)) = true := by simp; omega
       clear k0 ha
       go_wp2_with fail
       go_ret
       exact ⟨rfl, HB8.out⟩
     have ta : decide (ts.length ≤ a) = false := by simpa using ha
     have ta' : decide ((ts.length : Int) ≤ (a : Int)) = false := by simp; omega
     have HE4 := Lib.hid (same_Err k1 4 w8 (HG.out.far HB8.out))
     have HK0 := Lib.hid k0
     have HAL : Hid (a < ts.length) := by show a < ts.length; omega
     clear k0 ha
     go_wp2_with fail
     refine HE4.out.mono ?_
     rintro r w9 ⟨rfl, hb9⟩
     have HB9 := Lib.hid (HB8.out.trans (hb9.mono HB8.out.size))
     have HBU9 := Lib.hid (HBU.out.trans (hb9.mono HBU.out.size))
     clear hb9 HE4 HB8 HBU
     by_cases k4 : k1 = 4
     · have tk4 : (k1 == 4) = true := by simpa using k4
       clear k4
       go_wp2_with fail
       go_ret
       exact ⟨rfl, HB9.out⟩
     have tk4 : (k1 == 4) = false := by simpa using k4
     obtain ⟨hpu, e2, a2, k2, hq2, hk2⟩ := soon_plain (more := more) HQ.out HK0.out k4 HAL.out (by rw [HU.out]; have := HL.out; omega) (by rw [HU.out]; exact HSA.out)
     rw [HU.out] at hpu
     have HT2 := Lib.hid (phrase_Parse us A7 c7 w9 hc7 hm7 ((HUS.out.below HBU9.out).more HBU9.out.size) (by
       intro x hm
       rw [← HU.out] at hm
       exact (List.mem_append.1 hm).elim (HA.out.z x) (HB.out.z x)) (HGL.out.far HB9.out hng) (Nat.le_trans hng HB9.out.size))
     rw [hpu] at HT2
     have HQ2 := Lib.hid hq2
     have HK2 := Lib.hid hk2
     clear hpu hq2 hk2 k4 HQ HSA HBU9
     go_wp2_with fail
     refine HT2.out.mono ?_
     rintro r w10 ⟨A10, c10, rfl, -, -, -, hb10⟩
     have HB10 := Lib.hid (HB9.out.trans (hb10.mono HB9.out.size))
     have HTD := Lib.hid (same_Told k1 k1 w10 (HG.out.far HB10.out))
     clear hb10 HT2 HB9
     have tkk : (k1 == k1) = true := by simp
     have ta0 : decide ((a : Int) < 0) = false := by simp
     go_wp2_with fail
     refine HTD.out.mono ?_
     rintro r w11 ⟨rfl, hb11⟩
     have HB11 := Lib.hid (HB10.out.trans (hb11.mono HB10.out.size))
     clear hb11 HTD HB10
     obtain ⟨b, o, hA1, -⟩ := HA.out.sl (by rintro rfl; exact absurd HAL.out (by simp))
     subst hA1
     have hta : (ts.take a).length = a := by rw [List.length_take]; have := HAL.out; omega
     have HT3 := Lib.hid (phrase_Parse (ts.take a) (some ⟨b, o, none⟩) c1 w11 (by rw [hta]; have := HAL.out; have := HA.out.le; omega) HA.out.max ((tkSl_take (HA.out.sl.below HB11.out) a).more HB11.out.size) (fun x hx => HA.out.z x (List.mem_of_mem_take hx)) (HGL.out.far HB11.out hng) (Nat.le_trans hng HB11.out.size))
     rw [hta, HQ2.out] at HT3
     have hsl := take_slice b o ts.length c1 a (Nat.le_of_lt HAL.out) HA.out.le w11
     clear hta HQ2
     go_wp2_with fail
     refine HT3.out.mono ?_
     rintro r w12 ⟨A12, c12, rfl, -, -, -, hb12⟩
     have HB12 := Lib.hid (HB11.out.trans (hb12.mono HB11.out.size))
     have HE1 := Lib.hid (same_Err k2 1 w12 (HG.out.far HB12.out))
     clear hb12 HT3 HB11 hsl
     go_wp2_with fail
     refine HE1.out.mono ?_
     rintro r w13 ⟨rfl, hb13⟩
     have HB13 := Lib.hid (HB12.out.trans (hb13.mono HB12.out.size))
     have HE5 := Lib.hid (same_Err k2 4 w13 (HG.out.far HB13.out))
     clear hb13 HE1 HB12
     go_wp2_with fail
     refine HE5.out.mono ?_
     rintro r w14 ⟨rfl, hb14⟩
     have HB14 := Lib.hid (HB13.out.trans (hb14.mono HB13.out.size))
     clear hb14 HE5 HB13
     rcases HK2.out with rfl | rfl | ⟨rfl, rfl⟩
     all_goals
       go_wp2_with fail
       go_ret
       exact ⟨rfl, HB14.out⟩
end Go.Proofs.YtbggbcnfkcadjaaGreatDoor
