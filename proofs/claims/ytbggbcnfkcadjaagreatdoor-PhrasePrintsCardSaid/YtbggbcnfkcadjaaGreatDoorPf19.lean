/-
  THE WALKS of the reference that prints: word, glued, bracketed, Level, between, signOf.
  THE WALKS of the reference that prints: between, signOf.
  THE WALKS of the reference that prints: Part.
-/
import Derived.Test.YtbggbcnfkcadjaaGreatDoorPf18
namespace Go.Proofs.YtbggbcnfkcadjaaGreatDoor
set_option maxRecDepth 100000
open Go.RowKit Go.Sort
def TBack (w : World) (r : Ending) (w' : World) (ts : List Tk) : Prop :=
 ∃ A c, r = .returned (.slice A ts.length c) ∧ ts.length ≤ c ∧ c ≤ 9223372036854775807 ∧ TkSl w' w'.heap.size A ts ∧ RowKit.Below w.heap.size w w'
theorem own_words {w W : World} {base : Nat} {A : Option Addr} {n c : Nat} {ts : List Tk} (h : W.ownsRow base 42 3 (.slice A n c) n (flatG Tk.cells ts)) (hb : RowKit.Below w.heap.size w W) : TBack w (.returned (.slice A n c)) W ts := by
 obtain ⟨rfl, h1, h2, h3⟩ := toks_form h
 exact ⟨A, c, rfl, h1, h2, h3, hb⟩
theorem TBack.of {w W : World} {A : Option Addr} {n c : Nat} {ts us : List Tk} (e : us = ts) (hn : n = us.length) (h1 : us.length ≤ c) (h2 : c ≤ 9223372036854775807) (h3 : TkSl W W.heap.size A us) (hb : RowKit.Below w.heap.size w W) : TBack w (.returned (.slice A n c)) W ts := by
 subst e hn
 exact ⟨A, c, rfl, h1, h2, h3, hb⟩
set_option maxHeartbeats 1600000 in
theorem r2_word (k : Int) (s : ByteArray) (w : World) :
   Calls Tryz.prog 51 #[.int .i64 k, .string s] w fun r w' => TBack w r w' [⟨k, s, 0⟩] := by
 have HT := Lib.hid (tk_lit w ⟨k, s, 0⟩)
 go_enter Tryz.func51, Tryz.ntmps51
 go_wp2_with fail
 go_ret
 exact own_words HT.out (by (repeat (first | assumption | exact Below.refl _ _ | apply Below.drew | apply below_drewN | (refine Below.alloc ?_ (by first | exact Nat.le_refl _ | omega | (simp; done) | (simp; omega)) _))))
set_option maxHeartbeats 1600000 in
theorem r2_glued (a b : List Tk) (A B : Option Addr) (c d : Nat) (w : World) (ha : TkSl w w.heap.size A a) (hb : TkSl w w.heap.size B b) (hn : a.length + b.length ≤ 4194304) :
   Calls Tryz.prog 50 #[.slice A a.length c, .slice B b.length d] w fun r w' => TBack w r w' (a ++ b) := by
 have HA1 := Lib.hid (app_toks (W := w) (base := w.heap.size) (xs := []) (ys := a) (c := c) (World.ownsRow_nil _ _ _ _) ha (by simp; omega) (Nat.le_refl _))
 have HB := Lib.hid hb
 have HN := Lib.hid hn
 clear ha hb hn
 go_enter Tryz.func50, Tryz.ntmps50
 go_wp2_with (first
   | (at_builtin; refine wpList_append_run rfl (.tmp 6) (.tmp 7) 23 rfl _ _ rfl rfl _ HA1.out ?_; intro v6 w6 hr6; have HR6 := Lib.hid hr6; have HB6 : Hid (RowKit.Below w.heap.size w w6) := (RowKit.Below.refl w.heap.size w).grown hr6.grow (Nat.le_refl _) (fun q hq => by simp [Value.ownBlock] at hq); have HA2 := Lib.hid (app_toks (base := w.heap.size) (xs := a) (ys := b) (c := d) hr6.own (HB.out.below HB6.out) HN.out HB6.out.size); clear hr6)
   | (at_builtin; refine wpList_append_run rfl (.tmp 9) (.tmp 10) 23 rfl _ _ rfl rfl _ HA2.out ?_; intro v7 w7 hr7; have HB7 : Hid (RowKit.Below w.heap.size w w7) := HB6.out.grown hr7.grow HB6.out.size (fun q hq => (own_lt HR6.out.own hq).1); have hr7 := hr7.own; rw [List.length_append] at hr7; obtain ⟨A7, c7, hv7, hc7⟩ := own_sl hr7; subst hv7; have HR7 := Lib.hid hr7; clear hr7))
 go_ret
 exact own_words HR7.out HB7.out
set_option maxHeartbeats 1600000 in
theorem r2_bracketed (a : List Tk) (A : Option Addr) (c : Nat) (w : World) (ha : TkSl w w.heap.size A a) (hn : a.length ≤ 1000000) :
   Calls Tryz.prog 53 #[.slice A a.length c] w fun r w' => TBack w r w' (brT a) := by
 have HA := Lib.hid ha
 have HN := Lib.hid hn
 clear ha hn
 go_enter Tryz.func53, Tryz.ntmps53
 go_wp2_with fail
 refine (r2_word 5 ⟨#[40]⟩ w).mono ?_
 rintro r w1 ⟨A1, c1, rfl, -, -, s1, b1⟩
 have HB1 := Lib.hid b1
 have HG1 := Lib.hid (r2_glued [tSg [40]] a A1 A c1 c w1 s1 ((HA.out.below b1).more b1.size) (by have := HN.out; simp; omega))
 clear s1 b1
 go_wp2_with fail
 refine HG1.out.mono ?_
 rintro r w2 ⟨A2, c2, rfl, -, -, s2, b2⟩
 have HB2 := Lib.hid (HB1.out.trans (b2.mono HB1.out.size))
 have HS2 := Lib.hid s2
 clear s2 b2 HG1 HB1
 go_wp2_with fail
 refine (r2_word 5 ⟨#[41]⟩ w2).mono ?_
 rintro r w3 ⟨A3, c3, rfl, -, -, s3, b3⟩
 have HB3 := Lib.hid (HB2.out.trans (b3.mono HB2.out.size))
 have HG2 := Lib.hid (r2_glued ([tSg [40]] ++ a) [tSg [41]] A2 A3 c2 c3 w3 ((HS2.out.below b3).more b3.size) s3 (by have := HN.out; simp; omega))
 clear s3 b3 HB2
 go_wp2_with fail
 refine HG2.out.mono ?_
 rintro r w4 ⟨A4, c4, rfl, h4, m4, s4, b4⟩
 have HB4 := Lib.hid (HB3.out.trans (b4.mono HB3.out.size))
 have HS4 := Lib.hid s4
 clear s4 b4 HG2 HB3
 go_wp2_with fail
 go_ret
 exact TBack.of (by simp [brT]) (by simp) h4 m4 HS4.out HB4.out
set_option maxHeartbeats 3200000 in
theorem r2_Level {n : Nd} (hs : shapedT n = true) (h7 : n.op ≠ 7) (w : World) :
   Calls Tryz.prog 48 #[.int .i64 n.op] w fun r w' => r = .returned (.int .i64 (lvlW n.op : Nat)) ∧ RowKit.Below w.heap.size w w' := by
 have h := op_cases hs h7
 generalize n.op = o at h
 clear hs h7 n
 rcases h with rfl | rfl | rfl | rfl | rfl | rfl | rfl | rfl | rfl | rfl | rfl | rfl | rfl | rfl | rfl | rfl | rfl | rfl | rfl | rfl | rfl | rfl | rfl | rfl | rfl | rfl
 all_goals
   go_enter Tryz.func48, Tryz.ntmps48
   go_wp2_with fail
   go_ret
   exact ⟨rfl, by (repeat (first | assumption | exact Below.refl _ _ | apply Below.drew | apply below_drewN | (refine Below.alloc ?_ (by first | exact Nat.le_refl _ | omega | (simp; done) | (simp; omega)) _)))⟩
end Go.Proofs.YtbggbcnfkcadjaaGreatDoor
namespace Go.Proofs.YtbggbcnfkcadjaaGreatDoor
set_option maxRecDepth 100000
open Go.RowKit Go.Sort
def sgV : Nat → ByteArray
 | 0 => ⟨#[124, 124]⟩ | 1 => ⟨#[38, 38]⟩ | 2 => ⟨#[61, 61]⟩ | 3 => ⟨#[60]⟩ | 4 => ⟨#[60, 61]⟩ | 5 => ⟨#[105, 110]⟩ | 6 => ⟨#[43]⟩ | 7 => ⟨#[45]⟩ | _ => ⟨#[42]⟩
def opV : Nat → Int
 | 0 => 12 | 1 => 11 | 2 => 14 | 3 => 15 | 4 => 16 | 5 => 20 | 6 => 17 | 7 => 18 | _ => 19
set_option maxHeartbeats 3200000 in
theorem r2_between (k : Nat) (w : World) :
   Calls Tryz.prog 70 #[.string (sgV k)] w fun r w' => r = .returned (.int .i64 (opV k)) ∧ RowKit.Below w.heap.size w w' := by
 match k with
 | 0 | 1 | 2 | 3 | 4 | 5 | 6 | 7 | _ + 8 =>
   simp only [sgV, opV]
   go_enter Tryz.func70, Tryz.ntmps70
   go_wp2_with fail
   go_ret
   exact ⟨rfl, by (repeat (first | assumption | exact Below.refl _ _ | apply Below.drew | apply below_drewN | (refine Below.alloc ?_ (by first | exact Nat.le_refl _ | omega | (simp; done) | (simp; omega)) _)))⟩
theorem sgV_cell {k : Nat} (h : k < 9) : (#[.string ⟨#[124, 124]⟩, .string ⟨#[38, 38]⟩, .string ⟨#[61, 61]⟩, .string ⟨#[60]⟩, .string ⟨#[60, 61]⟩, .string ⟨#[105, 110]⟩, .string ⟨#[43]⟩, .string ⟨#[45]⟩, .string ⟨#[42]⟩] : Array Value)[k]? = some (.string (sgV k)) := by
 match k with
 | 0 | 1 | 2 | 3 | 4 | 5 | 6 | 7 | 8 => rfl
 | _ + 9 => omega
theorem opV_inj {j k : Nat} (hj : j < 9) (hk : k < 9) (h : opV j = opV k) : j = k := by
 have : ∀ a : Fin 9, ∀ b : Fin 9, opV a.1 = opV b.1 → a.1 = b.1 := by decide
 exact this ⟨j, hj⟩ ⟨k, hk⟩ h
theorem sgV_in (k : Nat) (hk : k < 9) : ((sgV k).toList == [105, 110]) = decide (k = 5) := by
 match k with
 | 0 | 1 | 2 | 3 | 4 | 5 | 6 | 7 | 8 => simp [sgV, ByteArray.toList_eq]
 | _ + 9 => omega
theorem sgV_word (k : Nat) (hk : k < 9) : (⟨if k = 5 then 1 else 5, sgV k, 0⟩ : Tk) = nmdW (btwW (opV k)) := by
 match k with
 | 0 | 1 | 2 | 3 | 4 | 5 | 6 | 7 | 8 => rfl
 | _ + 9 => omega
set_option maxHeartbeats 6400000 in
theorem r2_signOf (q : Nat) (hq : q < 9) (w : World) :
   Calls Tryz.prog 52 #[.int .i64 (opV q)] w fun r w' => TBack w r w' [nmdW (btwW (opV q))] := by
 obtain ⟨x, hx⟩ : ∃ x, nmdW (btwW (opV q)) = x := ⟨_, rfl⟩
 rw [hx]
 have HX := Lib.hid ((sgV_word q hq).trans hx)
 obtain ⟨o, ho⟩ : ∃ o, opV q = o := ⟨_, rfl⟩
 have HO := Lib.hid ho
 rw [ho]
 clear ho hx
 go_enter Tryz.func52, Tryz.ntmps52
 go_wp2_with fail
 have HBK := Lib.hid (Blk.new w 9 #[.string ⟨#[124, 124]⟩, .string ⟨#[38, 38]⟩, .string ⟨#[61, 61]⟩, .string ⟨#[60]⟩, .string ⟨#[60, 61]⟩, .string ⟨#[105, 110]⟩, .string ⟨#[43]⟩, .string ⟨#[45]⟩, .string ⟨#[42]⟩])
 have hb1 : RowKit.Below w.heap.size w (w.alloc (.cells #[.string ⟨#[124, 124]⟩, .string ⟨#[38, 38]⟩, .string ⟨#[61, 61]⟩, .string ⟨#[60]⟩, .string ⟨#[60, 61]⟩, .string ⟨#[105, 110]⟩, .string ⟨#[43]⟩, .string ⟨#[45]⟩, .string ⟨#[42]⟩] 9)) := by (repeat (first | assumption | exact Below.refl _ _ | apply Below.drew | apply below_drewN | (refine Below.alloc ?_ (by first | exact Nat.le_refl _ | omega | (simp; done) | (simp; omega)) _)))
 have hz1 : w.heap.size < (w.alloc (.cells #[.string ⟨#[124, 124]⟩, .string ⟨#[38, 38]⟩, .string ⟨#[61, 61]⟩, .string ⟨#[60]⟩, .string ⟨#[60, 61]⟩, .string ⟨#[105, 110]⟩, .string ⟨#[43]⟩, .string ⟨#[45]⟩, .string ⟨#[42]⟩] 9)).heap.size := by simp
 generalize (w.alloc (.cells #[.string ⟨#[124, 124]⟩, .string ⟨#[38, 38]⟩, .string ⟨#[61, 61]⟩, .string ⟨#[60]⟩, .string ⟨#[60, 61]⟩, .string ⟨#[105, 110]⟩, .string ⟨#[43]⟩, .string ⟨#[45]⟩, .string ⟨#[42]⟩] 9)) = w1 at HBK hb1 hz1 ⊢
 have HB1 := Lib.hid hb1
 clear hb1
 go_loopw [4] (fun ii wr => ∃ k : Nat, ii = .int .i64 k ∧ k ≤ q ∧ RowKit.Below w1.heap.size w1 wr) (fun ii _ => q - (intOf ii).toNat)
 case atStart => exact ⟨0, rfl, by omega, RowKit.Below.refl _ _⟩
 case round =>
   obtain ⟨k, rfl, hk, hbr⟩ := hrel
   have hk9 : k < 9 := by omega
   have d0 : wr.cell? ⟨w.heap.size, 0 + k, none⟩ = some (.string (sgV k)) := by
     rw [Nat.zero_add, hbr.cell (p := ⟨w.heap.size, k, none⟩) hz1, HBK.out.cell, sgV_cell hk9]
   have d1 : wr.cell? ⟨w.heap.size, k, none⟩ = some (.string (sgV k)) := by rwa [Nat.zero_add] at d0
   have hzr := hbr.size
   have HR := Lib.hid (HB1.out.trans (hbr.mono HB1.out.size))
   have HBT := Lib.hid (r2_between k wr)
   have tl : decide ((k : Int) < 9) = true := by simp; omega
   go_wp2_with fail
   refine HBT.out.mono ?_
   rintro r w2 ⟨rfl, hb2⟩
   have HR2 := Lib.hid (HR.out.trans (hb2.mono HR.out.size))
   have hbr2 := hbr.trans (hb2.mono hzr)
   have e0 : w2.cell? ⟨w.heap.size, 0 + k, none⟩ = some (.string (sgV k)) := (hb2.cell (p := ⟨w.heap.size, 0 + k, none⟩) (Nat.lt_of_lt_of_le hz1 hzr)).trans d0
   have e1 : w2.cell? ⟨w.heap.size, k, none⟩ = some (.string (sgV k)) := by rwa [Nat.zero_add] at e0
   have hs2 : w.heap.size < w2.heap.size := Nat.lt_of_lt_of_le hz1 hbr2.size
   clear d0 d1 HBT HR hbr hb2 hzr
   by_cases e : k = q
   · have te : (opV k == o) = true := by rw [e, HO.out]; simp
     by_cases h5 : k = 5
     · have tin : ((sgV k).toList == [105, 110]) = true := by rw [sgV_in k hk9, decide_eq_true h5]
       have HF : Hid ((⟨1, ⟨#[105, 110]⟩, 0⟩ : Tk) = x) := by show _ = _; rw [← HX.out, ← e, if_pos h5, h5]; rfl
       clear h5 e
       go_wp2_with fail
       refine (r2_word 1 ⟨#[105, 110]⟩ w2).mono ?_
       rintro r w3 ⟨A3, c3, rfl, h3, m3, s3, b3⟩
       have HB3 := Lib.hid (HR2.out.trans (b3.mono HR2.out.size))
       have HS3 := Lib.hid s3
       clear s3 b3
       go_wp2_with fail
       go_ret
       exact TBack.of (by rw [HF.out]) rfl h3 m3 HS3.out HB3.out
     · have tin : ((sgV k).toList == [105, 110]) = false := by rw [sgV_in k hk9, decide_eq_false h5]
       have HF : Hid ((⟨5, sgV k, 0⟩ : Tk) = x) := by show _ = _; rw [← HX.out, ← e, if_neg h5]
       clear h5 e
       go_wp2_with fail
       refine (r2_word 5 (sgV k) w2).mono ?_
       rintro r w3 ⟨A3, c3, rfl, h3, m3, s3, b3⟩
       have HB3 := Lib.hid (HR2.out.trans (b3.mono HR2.out.size))
       have HS3 := Lib.hid s3
       clear s3 b3
       go_wp2_with fail
       go_ret
       exact TBack.of (by rw [HF.out]) rfl h3 m3 HS3.out HB3.out
   · have te : (opV k == o) = false := by
       rw [← HO.out]
       exact beq_eq_false_iff_ne.2 fun h => e (opV_inj hk9 hq h)
     go_wp2_with fail
     exact ⟨⟨k + 1, by go_num, by omega, hbr2⟩, by simp [intOf]; omega⟩
end Go.Proofs.YtbggbcnfkcadjaaGreatDoor
namespace Go.Proofs.YtbggbcnfkcadjaaGreatDoor
set_option maxRecDepth 100000
open Go.RowKit Go.Sort
def WBack (w : World) (r : Ending) (w' : World) (ts : List Tk) (j : Nat) : Prop :=
 ∃ A c, r = .returned (.tuple #[.slice A ts.length c, .int .i64 j]) ∧ ts.length ≤ c ∧ c ≤ 9223372036854775807 ∧ TkSl w' w'.heap.size A ts ∧ RowKit.Below w.heap.size w w'
theorem WBack.of {w W : World} {A : Option Addr} {n c j : Nat} {k : Int} {ts us : List Tk} (e : us = ts) (hn : n = us.length) (hk : k = (j : Int)) (h1 : us.length ≤ c) (h2 : c ≤ 9223372036854775807) (h3 : TkSl W W.heap.size A us) (hb : RowKit.Below w.heap.size w W) : WBack w (.returned (.tuple #[.slice A n c, .int .i64 k])) W ts j := by
 subst e hn hk
 exact ⟨A, c, rfl, h1, h2, h3, hb⟩
def WOk (e : List Nd) (b o c : Nat) (w0 : World) (N : Nat) : Prop := ∀ (xs rest : List Nd) (i j : Nat) (W : World), xs.length ≤ N → Ex (.one false) xs → NumK xs → e.drop i = xs ++ rest → i + xs.length = j → RowKit.Below w0.heap.size w0 W →
 Calls Tryz.prog 26 #[.slice (some ⟨b, o, none⟩) e.length c, .int .i64 i] W fun r w' => WBack W r w' (wordsW xs) j
structure EIn (e : List Nd) (b o : Nat) (w0 : World) : Prop where
 sl : NdSl w0 w0.heap.size (some ⟨b, o, none⟩) e
 hb : b < w0.heap.size
 le : e.length ≤ 200
theorem drop_at {e ys : List Nd} {i : Nat} {n : Nd} (h : e.drop i = n :: ys) : e[i]? = some n ∧ i < e.length ∧ e.drop (i + 1) = ys := by
 have h1 : e[i]? = some n := by
   have := congrArg (fun l => l[0]?) h
   simpa using this
 refine ⟨h1, (List.getElem?_eq_some_iff.1 h1).1, ?_⟩
 rw [← List.tail_drop, h]; rfl
theorem drop_app {e xs ys : List Nd} {i : Nat} (h : e.drop i = xs ++ ys) : e.drop (i + xs.length) = ys := by
 rw [← List.drop_drop, h, List.drop_left]
theorem EIn.node {e : List Nd} {b o : Nat} {w0 W : World} (h : EIn e b o w0) (hb : RowKit.Below w0.heap.size w0 W) {i : Nat} {n : Nd} (hi : e[i]? = some n) : NdAt W b (o + i * 4) n := by
 have hne : e ≠ [] := by rintro rfl; simp at hi
 obtain ⟨b', o', he, hb', hc⟩ := (h.sl.below hb) hne
 injection he with he; injection he with e1 e2 _
 subst e1 e2
 exact hc i n hi
theorem ex_len {e xs rest : List Nd} {i : Nat} (h : e.drop i = xs ++ rest) : xs.length ≤ e.length := by
 have := congrArg List.length h
 rw [List.length_drop, List.length_append] at this
 omega
set_option maxHeartbeats 3200000 in
theorem r2_Part {e : List Nd} {b o c N : Nat} {w0 : World} (hE : EIn e b o w0) (hW : WOk e b o c w0 N) {xs rest : List Nd} {i j l : Nat} (W : World) (hN : xs.length ≤ N) (hx : Ex (.one false) xs) (hk : NumK xs) (hd : e.drop i = xs ++ rest) (hj : i + xs.length = j) (hb : RowKit.Below w0.heap.size w0 W) :
   Calls Tryz.prog 49 #[.slice (some ⟨b, o, none⟩) e.length c, .int .i64 i, .int .i64 l] W fun r w' => WBack W r w' (partT l xs) j := by
 have HW := Lib.hid (hW xs rest i j W hN hx hk hd hj hb)
 have hlen := words_len _ xs (Nat.le_refl _) hx
 have hel := ex_len hd
 have hle := hE.le
 obtain ⟨n, ps, rfl, h7, hs, -, -⟩ := ex_cutW hx
 have h7' : n.op ≠ 7 := by simpa using h7
 obtain ⟨hi, hlt, -⟩ := drop_at (ys := ps.flatten ++ rest) (by rw [hd]; rfl)
 have HNA := Lib.hid (fun W' (h : RowKit.Below w0.heap.size w0 W') => hE.node h hi)
 have HL := Lib.hid (fun W' => r2_Level hs h7' W')
 obtain ⟨ws, hws⟩ : ∃ ws, wordsW (n :: ps.flatten) = ws := ⟨_, rfl⟩
 rw [hws] at HW hlen
 have HP : Hid (partT l (n :: ps.flatten) = if l ≤ lvlW n.op then ws else brT ws) := by
   show _ = _
   rw [← hws]
   rfl
 have HB0 := Lib.hid hb
 have hbE := hE.hb
 have hlen2 : ws.length ≤ 2000 := by omega
 clear hW hE hN hx hk hd hj hb hlen hel hi hs h7 h7' hws
 obtain ⟨qs, hqs⟩ : ∃ qs, partT l (n :: ps.flatten) = qs := ⟨_, rfl⟩
 rw [hqs] at HP ⊢
 clear hqs
 obtain ⟨q, hq⟩ : ∃ q, lvlW n.op = q := ⟨_, rfl⟩
 rw [hq] at HL HP
 clear hq
 go_enter Tryz.func49, Tryz.ntmps49
 go_wp2_with fail
 refine HW.out.mono ?_
 rintro r w1 ⟨A1, c1, rfl, h1, m1, s1, b1⟩
 have HB1 := Lib.hid b1
 have HS1 := Lib.hid s1
 have hb2 := HB0.out.trans (b1.mono HB0.out.size)
 obtain ⟨d0, -, -, -⟩ := HNA.out w1 hb2
 have hbw : b < w1.heap.size := Nat.lt_of_lt_of_le hbE hb2.size
 clear s1 b1 hb2 HW
 go_wp2_with fail
 refine (HL.out w1).mono ?_
 rintro r w2 ⟨rfl, b2⟩
 have HB2 := Lib.hid (HB1.out.trans (b2.mono HB1.out.size))
 have HS2 := Lib.hid ((HS1.out.below b2).more b2.size)
 clear b2 HS1 HB1 d0
 by_cases hl : l ≤ q
 · have t1 : decide (q < l) = false := by simp; omega
   have t2 : decide ((q : Int) < (l : Int)) = false := by simp; omega
   have HE : Hid (ws = qs) := by show _ = _; rw [HP.out, if_pos hl]
   clear hl
   go_wp2_with fail
   refine bodyPost_ret (results_tmp2 rfl _ _ _) rfl ?_
   exact WBack.of HE.out rfl rfl h1 m1 HS2.out HB2.out
 · have t1 : decide (q < l) = true := by simp; omega
   have t2 : decide ((q : Int) < (l : Int)) = true := by simp; omega
   have HE : Hid (brT ws = qs) := by show _ = _; rw [HP.out, if_neg hl]
   clear hl
   go_wp2_with fail
   refine (r2_bracketed ws A1 c1 w2 HS2.out (by omega)).mono ?_
   rintro r w3 ⟨A3, c3, rfl, h3, m3, s3, b3⟩
   have HB3 := Lib.hid (HB2.out.trans (b3.mono HB2.out.size))
   have HS3 := Lib.hid s3
   clear s3 b3
   go_wp2_with fail
   refine bodyPost_ret (results_tmp2 rfl _ _ _) rfl ?_
   exact WBack.of HE.out rfl rfl h3 m3 HS3.out HB3.out
end Go.Proofs.YtbggbcnfkcadjaaGreatDoor
