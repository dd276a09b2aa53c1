/-
  THE WALKS: the printer of words: its state; put, sign, level, between, named.
-/
import Derived.Test.YtbggbcnfkcadjaaGreatDoorPf03
import Derived.Test.YtbggbcnfkcadjaaGreatDoorPf05
import Derived.Test.YtbggbcnfkcadjaaGreatDoorPf06
import Derived.Test.YtbggbcnfkcadjaaGreatDoorPf08
import Derived.Lib.Hide
import Derived.BigQuiet
import Derived.Maps.AppendAt
import Derived.Lib.AppendIntMem
namespace Go.Proofs.YtbggbcnfkcadjaaGreatDoor
set_option maxRecDepth 100000
open Go.RowKit Go.Sort
structure Qs where
 b : Nat
 o : Nat
 c : Nat
 v : Value
structure Pt (pb : Nat) (W : World) (s : Qs) (e : List Nd) (ts : List Tk) : Prop where
 blk : Blk W pb 57 #[.slice (some ⟨s.b, s.o, none⟩) e.length s.c, s.v]
 row : W.ownsRow (pb + 1) 42 3 s.v ts.length (flatG Tk.cells ts)
 sl : NdSl W pb (some ⟨s.b, s.o, none⟩) e
 le : e.length ≤ s.c
 mx : s.c ≤ 9223372036854775807
 hb : s.b < pb
 gl : Lib.TabBelow Tryz.prog pb W "internal/strconv.uint64pow10" .u64 Lib.pow10Tab
structure Fr (pb : Nat) (W : World) (v : Value) (W' : World) (v' : Value) : Prop where
 os : W'.os = W.os
 tape : W'.tape = W.tape
 output : W'.output = W.output
 size : W.heap.size ≤ W'.heap.size
 block : ∀ k, k < W.heap.size → k ≠ pb → some k ≠ v.ownBlock → W'.heap[k]? = W.heap[k]?
 own : v'.ownBlock = v.ownBlock ∨ ∃ b, v'.ownBlock = some b ∧ W.heap.size ≤ b
theorem Fr.refl (pb : Nat) (W : World) (v : Value) : Fr pb W v W v := ⟨rfl, rfl, rfl, Nat.le_refl _, fun _ _ _ _ => rfl, .inl rfl⟩
theorem Fr.trans {pb : Nat} {W1 W2 W3 : World} {v1 v2 v3 : Value} (h : Fr pb W1 v1 W2 v2) (k : Fr pb W2 v2 W3 v3) : Fr pb W1 v1 W3 v3 :=
 ⟨k.os.trans h.os, k.tape.trans h.tape, k.output.trans h.output, Nat.le_trans h.size k.size, fun i hi hn hv =>
   (k.block i (Nat.lt_of_lt_of_le hi h.size) hn (by
     rcases h.own with e | ⟨b, e, hb⟩
     · rw [e]; exact hv
     · rw [e]; intro h2; injection h2 with h2; omega)).trans (h.block i hi hn hv), by
   rcases k.own with e | ⟨b, e, hb⟩
   · rw [e]; exact h.own
   · exact .inr ⟨b, e, Nat.le_trans h.size hb⟩⟩
theorem Fr.of_below {pb : Nat} {W W' : World} (h : RowKit.Below W.heap.size W W') (v : Value) : Fr pb W v W' v := ⟨h.os, h.tape, h.output, h.size, fun k hk _ _ => h.block k hk, .inl rfl⟩
theorem Pt.own {pb : Nat} {W : World} {s : Qs} {e : List Nd} {ts : List Tk} (h : Pt pb W s e ts) {k : Nat} (hk : s.v.ownBlock = some k) : pb < k ∧ k < W.heap.size := by have := own_lt h.row hk; omega
theorem Pt.lt {pb : Nat} {W : World} {s : Qs} {e : List Nd} {ts : List Tk} (h : Pt pb W s e ts) : pb < W.heap.size := h.blk.lt
theorem Fr.below {pb : Nat} {W W' : World} {s s' : Qs} {e : List Nd} {ts : List Tk} (hP : Pt pb W s e ts) (h : Fr pb W s.v W' s'.v) : RowKit.Below pb W W' :=
 ⟨h.os, h.tape, h.output, h.size, fun k hk => h.block k (Nat.lt_trans hk hP.lt) (by omega) (fun e => by have := hP.own e.symm; omega)⟩
theorem Pt.below {pb : Nat} {W W' : World} {s : Qs} {e : List Nd} {ts : List Tk} (h : Pt pb W s e ts) (hb : RowKit.Below W.heap.size W W') : Pt pb W' s e ts :=
 ⟨h.blk.below hb h.lt, own_keep h.row hb, h.sl.keep fun _ hp => hb.cell (Nat.lt_trans hp h.lt), h.le, h.mx, h.hb, fun w' hb' => h.gl w' ((hb.mono (Nat.le_of_lt h.lt)).trans hb')⟩
theorem Fr.node {pb : Nat} {W W' : World} {v v' : Value} {k o : Nat} {n : Nd} (h : Fr pb W v W' v') (hn : NdAt W k o n) (h1 : k < W.heap.size) (h2 : k ≠ pb) (h3 : some k ≠ v.ownBlock) : NdAt W' k o n := by
 have hk : ∀ j, W'.cell? ⟨k, j, none⟩ = W.cell? ⟨k, j, none⟩ := fun j => World.cell?_of_block (a := ⟨k, j, none⟩) (h.block k h1 h2 h3)
 obtain ⟨a, b, c, d⟩ := hn
 exact ⟨(hk _).trans a, (hk _).trans b, (hk _).trans c, (hk _).trans d⟩
def Done (pb : Nat) (W : World) (s : Qs) (e : List Nd) (ts : List Tk) (r : Ending) (W' : World) : Prop := r = .returned (.tuple #[]) ∧ ∃ s', Pt pb W' s' e ts ∧ Fr pb W s.v W' s'.v
theorem blk_kpt {w w' : World} {g : Nat} {t : TypeId} {cs : Array Value} {row : Option Nat} (h : Blk w g t cs) (hg : w.grownBy w' row) (hn : some g ≠ row) : Blk w' g t cs := (hg.block g h.lt hn).trans h
theorem own_farQ {w : World} {base : Nat} {e : TypeId} {size : Nat} {v : Value} {n : Nat} {xs : List Value} (h : w.ownsRow base e size v n xs) {p : Addr} (hp : p.block < base) (u : Value) : (w.setCell p u).ownsRow base e size v n xs := by
 exact h.kept (row := some p.block) ⟨rfl, rfl, rfl, by simp, fun k _ hne => Below.heap_setCell w p u k (by intro e; apply hne; rw [e])⟩ (.inr fun e => by have := own_lt h e; omega)
theorem Pt.put {pb : Nat} {W : World} {S : Qs} {e : List Nd} {ts : List Tk} (HP : Pt pb W S e ts) {x : Tk} {w6 : World} {v6 : Value} (hown : w6.ownsRow (pb + 1) 42 3 v6 (ts.length + 1) (flatG Tk.cells ts ++ flatG Tk.cells [x])) (O : Obj) (hg : (W.alloc O).grownBy w6 S.v.ownBlock) (hloc : v6.ownBlock = S.v.ownBlock ∨ v6.ownBlock = some (W.alloc O).heap.size) :
   Done pb W S e (ts ++ [x]) (.returned (.tuple #[])) (w6.setCell ⟨pb, 1, none⟩ v6) := by
 have hpb := HP.lt
 have hno : some pb ≠ S.v.ownBlock := fun h => by have := HP.own h.symm; omega
 have hsz := hg.size
 have hB := blk_kpt (HP.blk.alloc O) hg hno
 have hfr : Fr pb W S.v (w6.setCell ⟨pb, 1, none⟩ v6) v6 := by
   refine ⟨hg.os, hg.tape, hg.output, by simp [World.setCell] at hsz ⊢; omega, fun k hk hn hv => ?_, ?_⟩
   · rw [Below.heap_setCell w6 _ _ k (by simpa using hn), hg.block k (by simp; omega) hv]
     exact Below.heap_alloc W O k hk
   · rcases hloc with h | h
     · exact .inl h
     · exact .inr ⟨_, h, by simp⟩
 refine ⟨rfl, { S with v := v6 }, ⟨hB.set 1 v6, ?_, ?_, HP.le, HP.mx, HP.hb, fun w' hb' => HP.gl w' ((Fr.below (s' := { S with v := v6 }) HP hfr).trans hb')⟩, hfr⟩
 · have := own_farQ hown (p := ⟨pb, 1, none⟩) (by simp) v6
   rw [List.length_append, flatG_append]
   exact this
 · exact HP.sl.keep fun p hp => World.cell?_of_block (hfr.block p.block (by omega) (by omega) (fun e => by have := HP.own e.symm; omega))
set_option maxHeartbeats 1600000 in
theorem pr_put (pb : Nat) (k : Int) (s : ByteArray) (W : World) (S : Qs) (e : List Nd) (ts us : List Tk) (hP : Pt pb W S e ts) (hl : ts.length ≤ 1000000) (hu : ts ++ [⟨k, s, 0⟩] = us) :
   Calls Tryz.prog 39 #[.pointer (some ⟨pb, 0, none⟩), .int .i64 k, .string s] W (Done pb W S e us) := by
 obtain ⟨i0, hi, hz0, hz1, hz2⟩ := info_parts tok_info
 subst hu
 obtain ⟨xb, xo, xc, xv⟩ := S
 obtain ⟨A, c, hxv, -⟩ := own_sl hP.row
 have hxv : xv = .slice A ts.length c := hxv
 subst hxv
 have hpb := hP.lt
 have HP := Lib.hid hP
 have k1 : W.cell? ⟨pb, 1, none⟩ = some (.slice A ts.length c) := hP.blk.cell 1
 have hno : some pb ≠ (Value.slice A ts.length c).ownBlock := fun h => by have := hP.own h.symm; omega
 have HNO := Lib.hid hno
 have HR : Hid ((W.alloc (.cells #[.int .i64 k, .string s, .int .i64 0] 42)).ownsRow (pb + 1) 42 3 (.slice A ts.length c) ts.length (flatG Tk.cells ts)) := own_keep hP.row (by (repeat (first | assumption | exact Below.refl _ _ | apply Below.drew | apply below_drewN | (refine Below.alloc ?_ (by first | exact Nat.le_refl _ | omega | (simp; done) | (simp; omega)) _))))
 clear hP hno
 go_enter Tryz.func39, Tryz.ntmps39
 go_wp2_with (at_builtin; refine wpList_append_own_at _ rfl (.tmp 10) (.tmp 14) 23 rfl (pb + 1) 42 i0 _ 3 32 Tryz.underlying23 hi hz0 hz1 hz2 rfl (by omega) (.slice A ts.length c) ts.length (flatG Tk.cells ts) rfl HR.out ⟨W.heap.size, 0, none⟩ 1 1 (flatG Tk.cells [⟨k, s, 0⟩]) rfl rfl (new_flatG W _ (⟨k, s, 0⟩ : Tk) _ rfl _ rfl) (flatG_cell tk_ok [⟨k, s, 0⟩]) (by unfold maxLen; omega) (by omega) (by simp; omega) ?_; intro v6 w6 hown6 hgrow6 _ hloc6; obtain ⟨A6, c6v, hv6, -⟩ := own_sl hown6; subst hv6; have HD := Lib.hid (HP.out.put hown6 _ hgrow6 hloc6); have b6 := blk_kpt (HP.out.blk.alloc _) hgrow6 HNO.out; have c6 : w6.cell? ⟨pb, 1, none⟩ = some (.slice A ts.length c) := b6.cell 1; have f6 : w6.frozen? ⟨pb, 1, none⟩ = false := b6.frozen 1; clear b6 hown6 hgrow6 hloc6)
 simp [bodyPost, results, Tryz.results39, go_sem]
 exact HD.out
set_option maxHeartbeats 1600000 in
theorem pr_sign (pb : Nat) (s : ByteArray) (W : World) (S : Qs) (e : List Nd) (ts us : List Tk) (hP : Pt pb W S e ts) (hl : ts.length ≤ 1000000) (hu : ts ++ [⟨5, s, 0⟩] = us) :
   Calls Tryz.prog 42 #[.pointer (some ⟨pb, 0, none⟩), .string s] W (Done pb W S e us) := by
 have HC := Lib.hid (pr_put pb 5 s W S e ts us hP hl hu)
 clear hP hl hu
 go_enter Tryz.func42, Tryz.ntmps42
 go_wp2_with fail
 refine HC.out.mono ?_
 rintro r W' ⟨rfl, hD⟩
 have HD := Lib.hid hD
 clear hD HC
 go_wp2_with fail
 simp [bodyPost, results, Tryz.results42, go_sem]
 exact ⟨rfl, HD.out⟩
set_option maxHeartbeats 1600000 in
theorem pr_named (pb : Nat) (s : ByteArray) (W : World) (S : Qs) (e : List Nd) (ts us : List Tk) (l : List UInt8) (hs : s = bsOf l) (hne : l ≠ []) (hP : Pt pb W S e ts) (hl : ts.length ≤ 1000000) (hu : ts ++ [nmdW l] = us) :
   Calls Tryz.prog 44 #[.pointer (some ⟨pb, 0, none⟩), .string s] W (Done pb W S e us) := by
 cases l with
 | nil => exact absurd rfl hne
 | cons a q =>
 have HC1 := Lib.hid (fun h => pr_put pb 1 s W S e ts us hP hl h)
 have HC2 := Lib.hid (fun h => pr_sign pb s W S e ts us hP hl h)
 have HU := Lib.hid hu
 have HS := Lib.hid hs
 have hsz : s.size = q.length + 1 := by rw [hs, bsOf_sz]; rfl
 have hs0 : s[0]'(by omega) = a := by subst hs; rfl
 have HC0 := Lib.hid hs0
 clear hP hl hu hs hne hs0
 go_enter Tryz.func44, Tryz.ntmps44
 go_wp2_with fail
 · have h1 : (97 : Int) ≤ ((s[0]'(by omega)).toNat : Int) := by assumption
   have h2 : ((s[0]'(by omega)).toNat : Int) ≤ (122 : Int) := by assumption
   rw [HC0.out] at h1 h2
   have hn : nmdW (a :: q) = tNm (a :: q) := nmd_nm (by simp; omega)
   have HD0 := Lib.hid (HC1.out (by rw [← HU.out, hn, HS.out]; rfl))
   clear h1 h2 hn
   refine HD0.out.mono ?_
   rintro r W' ⟨rfl, hD⟩
   have HD := Lib.hid hD
   clear hD HC1 HC2 HD0
   go_wp2_with fail
   simp [bodyPost, results, Tryz.results44, go_sem]
   exact ⟨rfl, HD.out⟩
 · have h1 : (97 : Int) ≤ ((s[0]'(by omega)).toNat : Int) := by assumption
   have h2 : (122 : Int) < ((s[0]'(by omega)).toNat : Int) := by assumption
   rw [HC0.out] at h1 h2
   have hn : nmdW (a :: q) = tSg (a :: q) := nmd_sg (by simp; omega)
   have HD0 := Lib.hid (HC2.out (by rw [← HU.out, hn, HS.out]; rfl))
   clear h1 h2 hn
   refine HD0.out.mono ?_
   rintro r W' ⟨rfl, hD⟩
   have HD := Lib.hid hD
   clear hD HC1 HC2 HD0
   go_wp2_with fail
   simp [bodyPost, results, Tryz.results44, go_sem]
   exact ⟨rfl, HD.out⟩
 · have h1 : ((s[0]'(by omega)).toNat : Int) < (97 : Int) := by assumption
   rw [HC0.out] at h1
   have hn : nmdW (a :: q) = tSg (a :: q) := nmd_sg (by simp; omega)
   have HD0 := Lib.hid (HC2.out (by rw [← HU.out, hn, HS.out]; rfl))
   clear h1 hn
   refine HD0.out.mono ?_
   rintro r W' ⟨rfl, hD⟩
   have HD := Lib.hid hD
   clear hD HC1 HC2 HD0
   go_wp2_with fail
   simp [bodyPost, results, Tryz.results44, go_sem]
   exact ⟨rfl, HD.out⟩
set_option maxHeartbeats 3200000 in
theorem pr_level (o : Int) (W : World) : Calls Tryz.prog 41 #[.int .i64 o] W fun r W' => r = .returned (.int .i64 (lvlW o)) ∧ W' = W := by
 by_cases c13 : o = 13
 · subst c13
   go_enter Tryz.func41, Tryz.ntmps41
   go_wp2_with fail
   go_ret
   exact ⟨rfl, rfl⟩
 by_cases c12 : o = 12
 · subst c12
   go_enter Tryz.func41, Tryz.ntmps41
   go_wp2_with fail
   go_ret
   exact ⟨rfl, rfl⟩
 by_cases c11 : o = 11
 · subst c11
   go_enter Tryz.func41, Tryz.ntmps41
   go_wp2_with fail
   go_ret
   exact ⟨rfl, rfl⟩
 by_cases c14 : o = 14
 · subst c14
   go_enter Tryz.func41, Tryz.ntmps41
   go_wp2_with fail
   go_ret
   exact ⟨rfl, rfl⟩
 by_cases c15 : o = 15
 · subst c15
   go_enter Tryz.func41, Tryz.ntmps41
   go_wp2_with fail
   go_ret
   exact ⟨rfl, rfl⟩
 by_cases c16 : o = 16
 · subst c16
   go_enter Tryz.func41, Tryz.ntmps41
   go_wp2_with fail
   go_ret
   exact ⟨rfl, rfl⟩
 by_cases c20 : o = 20
 · subst c20
   go_enter Tryz.func41, Tryz.ntmps41
   go_wp2_with fail
   go_ret
   exact ⟨rfl, rfl⟩
 by_cases c21 : o = 21
 · subst c21
   go_enter Tryz.func41, Tryz.ntmps41
   go_wp2_with fail
   go_ret
   exact ⟨rfl, rfl⟩
 by_cases c23 : o = 23
 · subst c23
   go_enter Tryz.func41, Tryz.ntmps41
   go_wp2_with fail
   go_ret
   exact ⟨rfl, rfl⟩
 by_cases c24 : o = 24
 · subst c24
   go_enter Tryz.func41, Tryz.ntmps41
   go_wp2_with fail
   go_ret
   exact ⟨rfl, rfl⟩
 by_cases c17 : o = 17
 · subst c17
   go_enter Tryz.func41, Tryz.ntmps41
   go_wp2_with fail
   go_ret
   exact ⟨rfl, rfl⟩
 by_cases c18 : o = 18
 · subst c18
   go_enter Tryz.func41, Tryz.ntmps41
   go_wp2_with fail
   go_ret
   exact ⟨rfl, rfl⟩
 by_cases c19 : o = 19
 · subst c19
   go_enter Tryz.func41, Tryz.ntmps41
   go_wp2_with fail
   go_ret
   exact ⟨rfl, rfl⟩
 by_cases c9 : o = 9
 · subst c9
   go_enter Tryz.func41, Tryz.ntmps41
   go_wp2_with fail
   go_ret
   exact ⟨rfl, rfl⟩
 by_cases c10 : o = 10
 · subst c10
   go_enter Tryz.func41, Tryz.ntmps41
   go_wp2_with fail
   go_ret
   exact ⟨rfl, rfl⟩
 by_cases c22 : o = 22
 · subst c22
   go_enter Tryz.func41, Tryz.ntmps41
   go_wp2_with fail
   go_ret
   exact ⟨rfl, rfl⟩
 by_cases c25 : o = 25
 · subst c25
   go_enter Tryz.func41, Tryz.ntmps41
   go_wp2_with fail
   go_ret
   exact ⟨rfl, rfl⟩
 by_cases c26 : o = 26
 · subst c26
   go_enter Tryz.func41, Tryz.ntmps41
   go_wp2_with fail
   go_ret
   exact ⟨rfl, rfl⟩
 by_cases c27 : o = 27
 · subst c27
   go_enter Tryz.func41, Tryz.ntmps41
   go_wp2_with fail
   go_ret
   exact ⟨rfl, rfl⟩
 have f13 : (o == 13) = false := by simpa using c13
 have f12 : (o == 12) = false := by simpa using c12
 have f11 : (o == 11) = false := by simpa using c11
 have f14 : (o == 14) = false := by simpa using c14
 have f15 : (o == 15) = false := by simpa using c15
 have f16 : (o == 16) = false := by simpa using c16
 have f20 : (o == 20) = false := by simpa using c20
 have f21 : (o == 21) = false := by simpa using c21
 have f23 : (o == 23) = false := by simpa using c23
 have f24 : (o == 24) = false := by simpa using c24
 have f17 : (o == 17) = false := by simpa using c17
 have f18 : (o == 18) = false := by simpa using c18
 have f19 : (o == 19) = false := by simpa using c19
 have f9 : (o == 9) = false := by simpa using c9
 have f10 : (o == 10) = false := by simpa using c10
 have f22 : (o == 22) = false := by simpa using c22
 have f25 : (o == 25) = false := by simpa using c25
 have f26 : (o == 26) = false := by simpa using c26
 have f27 : (o == 27) = false := by simpa using c27
 have hr : lvlW o = 8 := by unfold lvlW; repeat rw [if_neg (by omega)]
 rw [hr]
 clear hr c13 c12 c11 c14 c15 c16 c20 c21 c23 c24 c17 c18 c19 c9 c10 c22 c25 c26 c27
 go_enter Tryz.func41, Tryz.ntmps41
 go_wp2_with fail
 go_ret
 exact ⟨rfl, rfl⟩
set_option maxHeartbeats 3200000 in
theorem pr_between (o : Int) (W : World) : Calls Tryz.prog 43 #[.int .i64 o] W fun r W' => r = .returned (.string (bsOf (btwW o))) ∧ W' = W := by
 by_cases c12 : o = 12
 · subst c12
   go_enter Tryz.func43, Tryz.ntmps43
   go_wp2_with fail
   go_ret
   exact ⟨rfl, rfl⟩
 by_cases c11 : o = 11
 · subst c11
   go_enter Tryz.func43, Tryz.ntmps43
   go_wp2_with fail
   go_ret
   exact ⟨rfl, rfl⟩
 by_cases c14 : o = 14
 · subst c14
   go_enter Tryz.func43, Tryz.ntmps43
   go_wp2_with fail
   go_ret
   exact ⟨rfl, rfl⟩
 by_cases c15 : o = 15
 · subst c15
   go_enter Tryz.func43, Tryz.ntmps43
   go_wp2_with fail
   go_ret
   exact ⟨rfl, rfl⟩
 by_cases c16 : o = 16
 · subst c16
   go_enter Tryz.func43, Tryz.ntmps43
   go_wp2_with fail
   go_ret
   exact ⟨rfl, rfl⟩
 by_cases c20 : o = 20
 · subst c20
   go_enter Tryz.func43, Tryz.ntmps43
   go_wp2_with fail
   go_ret
   exact ⟨rfl, rfl⟩
 by_cases c17 : o = 17
 · subst c17
   go_enter Tryz.func43, Tryz.ntmps43
   go_wp2_with fail
   go_ret
   exact ⟨rfl, rfl⟩
 by_cases c18 : o = 18
 · subst c18
   go_enter Tryz.func43, Tryz.ntmps43
   go_wp2_with fail
   go_ret
   exact ⟨rfl, rfl⟩
 by_cases c19 : o = 19
 · subst c19
   go_enter Tryz.func43, Tryz.ntmps43
   go_wp2_with fail
   go_ret
   exact ⟨rfl, rfl⟩
 by_cases c25 : o = 25
 · subst c25
   go_enter Tryz.func43, Tryz.ntmps43
   go_wp2_with fail
   go_ret
   exact ⟨rfl, rfl⟩
 by_cases c26 : o = 26
 · subst c26
   go_enter Tryz.func43, Tryz.ntmps43
   go_wp2_with fail
   go_ret
   exact ⟨rfl, rfl⟩
 by_cases c27 : o = 27
 · subst c27
   go_enter Tryz.func43, Tryz.ntmps43
   go_wp2_with fail
   go_ret
   exact ⟨rfl, rfl⟩
 by_cases c21 : o = 21
 · subst c21
   go_enter Tryz.func43, Tryz.ntmps43
   go_wp2_with fail
   go_ret
   exact ⟨rfl, rfl⟩
 by_cases c24 : o = 24
 · subst c24
   go_enter Tryz.func43, Tryz.ntmps43
   go_wp2_with fail
   go_ret
   exact ⟨rfl, rfl⟩
 have f12 : (o == 12) = false := by simpa using c12
 have f11 : (o == 11) = false := by simpa using c11
 have f14 : (o == 14) = false := by simpa using c14
 have f15 : (o == 15) = false := by simpa using c15
 have f16 : (o == 16) = false := by simpa using c16
 have f20 : (o == 20) = false := by simpa using c20
 have f17 : (o == 17) = false := by simpa using c17
 have f18 : (o == 18) = false := by simpa using c18
 have f19 : (o == 19) = false := by simpa using c19
 have f25 : (o == 25) = false := by simpa using c25
 have f26 : (o == 26) = false := by simpa using c26
 have f27 : (o == 27) = false := by simpa using c27
 have f21 : (o == 21) = false := by simpa using c21
 have f24 : (o == 24) = false := by simpa using c24
 have hr : btwW o = [108, 105, 107, 101] := by unfold btwW; repeat rw [if_neg (by omega)]
 rw [hr]
 clear hr c12 c11 c14 c15 c16 c20 c17 c18 c19 c25 c26 c27 c21 c24
 go_enter Tryz.func43, Tryz.ntmps43
 go_wp2_with fail
 go_ret
 exact ⟨rfl, rfl⟩
end Go.Proofs.YtbggbcnfkcadjaaGreatDoor
