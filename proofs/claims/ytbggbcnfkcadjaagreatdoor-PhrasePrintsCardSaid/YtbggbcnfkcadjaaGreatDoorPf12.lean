/-
  THE WALKS: the printer of words: atom.
-/
import Derived.Test.YtbggbcnfkcadjaaGreatDoorPf11
import Derived.Test.YtbggbcnfkcadjaaGreatDoorPf02
namespace Go.Proofs.YtbggbcnfkcadjaaGreatDoor
set_option maxRecDepth 100000
open Go.RowKit Go.Sort
theorem Nx.box {pb : Nat} {W : World} {S : Qs} {e : List Nd} {ts : List Tk} (h : Pt pb W S e ts) (n : Nd) :
   Nx pb W S.v W.heap.size n (W.alloc (.cells #[.int .i64 n.op, .int .i64 n.n, .string n.s, .string n.t] 29)) S e ts := by
 have hb0 : RowKit.Below W.heap.size W (W.alloc (.cells #[.int .i64 n.op, .int .i64 n.n, .string n.s, .string n.t] 29)) := by (repeat (first | assumption | exact Below.refl _ _ | apply Below.drew | apply below_drewN | (refine Below.alloc ?_ (by first | exact Nat.le_refl _ | omega | (simp; done) | (simp; omega)) _)))
 have hpb := h.lt
 refine ⟨⟨h.below hb0, Fr.of_below hb0 _⟩, ?_, by simp, by omega, fun e1 => by have := h.own e1.symm; omega⟩
 have hB := Blk.new W 29 #[.int .i64 n.op, .int .i64 n.n, .string n.s, .string n.t]
 exact ⟨hB.cell 0, hB.cell 1, hB.cell 2, hB.cell 3⟩
theorem Nx.below {pb : Nat} {W0 : World} {v0 : Value} {nb : Nat} {n : Nd} {W W' : World} {S : Qs} {e : List Nd} {ts : List Tk} (h : Nx pb W0 v0 nb n W S e ts) (hb : RowKit.Below W.heap.size W W') : Nx pb W0 v0 nb n W' S e ts := by
 have hn : ∀ j, W'.cell? ⟨nb, j, none⟩ = W.cell? ⟨nb, j, none⟩ := fun j => hb.cell (p := ⟨nb, j, none⟩) h.lt
 obtain ⟨a, b, c, d⟩ := h.nd
 exact ⟨⟨h.on.pt.below hb, h.on.fr.trans (Fr.of_below hb _)⟩, ⟨(hn _).trans a, (hn _).trans b, (hn _).trans c, (hn _).trans d⟩, Nat.lt_of_lt_of_le h.lt hb.size, h.ne, h.no⟩
theorem grow_below (w : World) (k : Nat) (os : Array Obj) : RowKit.Below w.heap.size w (grow (w.drewN k) os) :=
 ⟨rfl, rfl, rfl, by simp [grow], fun i hi => by show (w.heap ++ os)[i]? = _; rw [Array.getElem?_append_left hi]⟩
theorem cut_yes {s : ByteArray} {c : UInt8} {l : List UInt8} (h : s.toList = c :: l) (W : World) :
   Calls Tryz.prog 82 #[.string s, .string ⟨#[c]⟩] W fun e w' => e = .returned (.tuple #[.string (bsOf l), .bool true]) ∧ w' = W := by
 have h' : s.data.toList = c :: l := by rw [← ByteArray.toList_eq]; exact h
 refine (Tryz.strings_CutPrefix s ⟨#[c]⟩ W).mono ?_
 rintro r w' ⟨rfl, rfl⟩
 have hp : Lib.hasPrefix s.data.toList (⟨#[c]⟩ : ByteArray).data.toList = true := by rw [h']; simp [Lib.hasPrefix, List.isPrefixOf]
 have ht : Lib.trimPrefix s.data.toList (⟨#[c]⟩ : ByteArray).data.toList = l := by unfold Lib.trimPrefix; rw [hp, if_pos rfl, h']; rfl
 rw [hp, ht]
 exact ⟨rfl, rfl⟩
theorem cut_no {s : ByteArray} {c : UInt8} (h : ∀ l, s.toList ≠ c :: l) (W : World) :
   Calls Tryz.prog 82 #[.string s, .string ⟨#[c]⟩] W fun e w' => e = .returned (.tuple #[.string s, .bool false]) ∧ w' = W := by
 refine (Tryz.strings_CutPrefix s ⟨#[c]⟩ W).mono ?_
 rintro r w' ⟨rfl, rfl⟩
 have hp : Lib.hasPrefix s.data.toList (⟨#[c]⟩ : ByteArray).data.toList = false := by
   rw [← ByteArray.toList_eq]
   cases hs : s.toList with
   | nil => rfl
   | cons d q =>
     have : c ≠ d := fun e => h q (by rw [hs, e])
     simp [Lib.hasPrefix, List.isPrefixOf, this]
 have ht : Lib.trimPrefix s.data.toList (⟨#[c]⟩ : ByteArray).data.toList = s.data.toList := by unfold Lib.trimPrefix; rw [hp, if_neg (by simp)]
 rw [hp, ht]
 exact ⟨rfl, rfl⟩
set_option maxHeartbeats 3200000 in
theorem at_1 (pb : Nat) (nn : Int) (s t : ByteArray) : AtomOk pb ⟨1, nn, s, t⟩ [] ([tNm (if nn = 1 then wTrue else wFalse)]) := by
 intro W S r ts vs hP hlen hv
 have hP : Pt pb W S r ts := hP
 have HN0 := Lib.hid (Nx.box hP ⟨1, nn, s, t⟩)
 have hpb := hP.lt
 have HV := Lib.hid hv
 clear hP hv
 simp at hlen
 by_cases h1 : nn = 1
 · have t1 : (nn == 1) = true := by simpa using h1
   rw [if_pos h1] at HV
   clear h1
   go_enter Tryz.func46, Tryz.ntmps46
   go_wp2_with fail
   generalize hw : W.alloc (.cells #[.int .i64 1, .int .i64 nn, .string s, .string t] 29) = w0 at HN0 ⊢
   clear hw
   refine (Tryz.strconv_FormatBool true w0).mono ?_
   rintro r0 w0' ⟨rfl, hww⟩
   obtain rfl : w0 = w0' := hww.symm
   go_wp2_with fail
   refine (pr_put pb 1 ⟨(Lib.formatBool true).toArray⟩ w0 S _ _ _ HN0.out.on.pt (by (try simp); omega) rfl).mono ?_
   rintro r0 w1 hD
   obtain ⟨rfl, S1, hN⟩ := HN0.out.step hD
   have HN1 := Lib.hid hN
   clear hD hN HN0
   go_wp2_with fail
   simp [bodyPost, results, Tryz.results46, go_sem]
   exact HN1.out.on.done (by rw [← HV.out]; rfl)
 · have t1 : (nn == 1) = false := by simpa using h1
   rw [if_neg h1] at HV
   clear h1
   go_enter Tryz.func46, Tryz.ntmps46
   go_wp2_with fail
   generalize hw : W.alloc (.cells #[.int .i64 1, .int .i64 nn, .string s, .string t] 29) = w0 at HN0 ⊢
   clear hw
   refine (Tryz.strconv_FormatBool false w0).mono ?_
   rintro r0 w0' ⟨rfl, hww⟩
   obtain rfl : w0 = w0' := hww.symm
   go_wp2_with fail
   refine (pr_put pb 1 ⟨(Lib.formatBool false).toArray⟩ w0 S _ _ _ HN0.out.on.pt (by (try simp); omega) rfl).mono ?_
   rintro r0 w1 hD
   obtain ⟨rfl, S1, hN⟩ := HN0.out.step hD
   have HN1 := Lib.hid hN
   clear hD hN HN0
   go_wp2_with fail
   simp [bodyPost, results, Tryz.results46, go_sem]
   exact HN1.out.on.done (by rw [← HV.out]; rfl)
set_option maxHeartbeats 3200000 in
theorem at_2 (pb : Nat) (nn : Int) (s t : ByteArray) (h0 : -9223372036854775808 ≤ nn) (h1 : nn ≤ 9223372036854775807) : AtomOk pb ⟨2, nn, s, t⟩ [] (numT nn) := by
 intro W S r ts vs hP hlen hv
 have hP : Pt pb W S r ts := hP
 have HN0 := Lib.hid (Nx.box hP ⟨2, nn, s, t⟩)
 have hpb := hP.lt
 have HV := Lib.hid hv
 clear hP hv
 have HTB := Lib.hid (fun (w : World) (h : Nx pb W S.v W.heap.size ⟨2, nn, s, t⟩ w S r ts) => Tryz.strconv_Itoa nn h0 h1 w h.on.pt.gl.here)
 by_cases hn : nn < 0
 · have hnt : numT nn = [tSg [45], ⟨2, bsOf (Lib.itoa (-nn)), 0⟩] := by unfold numT; rw [if_pos hn]
   have hc : ∀ W, Calls Tryz.prog 82 #[.string ⟨(Lib.itoa nn).toArray⟩, .string ⟨#[45]⟩] W fun e w' => e = .returned (.tuple #[.string (bsOf (Lib.itoa (-nn))), .bool true]) ∧ w' = W := fun W => cut_yes (by
     have : (⟨(Lib.itoa nn).toArray⟩ : ByteArray).toList = Lib.itoa nn := bsOf_list _
     rw [this]
     unfold Lib.itoa
     rw [if_pos hn, if_neg (by omega), show (-nn).toNat = nn.natAbs by omega]) W
   rw [hnt] at hlen HV
   simp at hlen
   have HCC := Lib.hid hc
   clear hnt hc hn
   go_enter Tryz.func46, Tryz.ntmps46
   go_wp2_with fail
   generalize hw : W.alloc (.cells #[.int .i64 2, .int .i64 nn, .string s, .string t] 29) = w0 at HN0 ⊢
   clear hw
   refine (HTB.out w0 HN0.out).mono ?_
   rintro r0 w1 ⟨rfl, kk, os, hww⟩
   have HN1 : Hid (Nx pb W S.v W.heap.size ⟨2, nn, s, t⟩ w1 S r ts) := by rw [hww]; exact HN0.out.below (grow_below _ _ _)
   clear hww HN0 HTB
   go_wp2_with fail
   refine (HCC.out w1).mono ?_
   rintro r0 w1' ⟨rfl, hww⟩
   obtain rfl : w1 = w1' := hww.symm
   go_wp2_with fail
   refine (pr_sign pb ⟨#[45]⟩ w1 S _ _ _ HN1.out.on.pt (by (try simp); omega) rfl).mono ?_
   rintro r0 w2 hD
   obtain ⟨rfl, S2, hN⟩ := HN1.out.step hD
   have HN2 := Lib.hid hN
   clear hD hN HN1
   go_wp2_with fail
   refine (pr_put pb 2 (bsOf (Lib.itoa (-nn))) w2 S2 _ _ _ HN2.out.on.pt (by (try simp); omega) rfl).mono ?_
   rintro r0 w3 hD
   obtain ⟨rfl, S3, hN⟩ := HN2.out.step hD
   have HN3 := Lib.hid hN
   clear hD hN HN2
   go_wp2_with fail
   simp [bodyPost, results, Tryz.results46, go_sem]
   exact HN3.out.on.done (by rw [← HV.out]; simp [tSg, bsOf])
 · have hnt : numT nn = [⟨2, bsOf (Lib.itoa nn), 0⟩] := by unfold numT; rw [if_neg hn]
   have hc : ∀ W, Calls Tryz.prog 82 #[.string ⟨(Lib.itoa nn).toArray⟩, .string ⟨#[45]⟩] W fun e w' => e = .returned (.tuple #[.string (bsOf (Lib.itoa nn)), .bool false]) ∧ w' = W := fun W => cut_no (fun l he => by
     have : (⟨(Lib.itoa nn).toArray⟩ : ByteArray).toList = Lib.itoa nn := bsOf_list _
     rw [this] at he
     unfold Lib.itoa at he
     rw [if_neg hn] at he
     obtain ⟨c, q, e, c1, c2⟩ := dec_head nn.toNat
     rw [e] at he
     injection he with e1
     subst e1
     revert c1; decide) W
   rw [hnt] at hlen HV
   simp at hlen
   have HCC := Lib.hid hc
   clear hnt hc hn
   go_enter Tryz.func46, Tryz.ntmps46
   go_wp2_with fail
   generalize hw : W.alloc (.cells #[.int .i64 2, .int .i64 nn, .string s, .string t] 29) = w0 at HN0 ⊢
   clear hw
   refine (HTB.out w0 HN0.out).mono ?_
   rintro r0 w1 ⟨rfl, kk, os, hww⟩
   have HN1 : Hid (Nx pb W S.v W.heap.size ⟨2, nn, s, t⟩ w1 S r ts) := by rw [hww]; exact HN0.out.below (grow_below _ _ _)
   clear hww HN0 HTB
   go_wp2_with fail
   refine (HCC.out w1).mono ?_
   rintro r0 w1' ⟨rfl, hww⟩
   obtain rfl : w1 = w1' := hww.symm
   go_wp2_with fail
   refine (pr_put pb 2 (bsOf (Lib.itoa nn)) w1 S _ _ _ HN1.out.on.pt (by (try simp); omega) rfl).mono ?_
   rintro r0 w2 hD
   obtain ⟨rfl, S2, hN⟩ := HN1.out.step hD
   have HN2 := Lib.hid hN
   clear hD hN HN1
   go_wp2_with fail
   simp [bodyPost, results, Tryz.results46, go_sem]
   exact HN2.out.on.done (by rw [← HV.out])
set_option maxHeartbeats 3200000 in
theorem at_3 (pb : Nat) (nn : Int) (s t : ByteArray) : AtomOk pb ⟨3, nn, s, t⟩ [] ([⟨3, s, 0⟩]) := by
 intro W S r ts vs hP hlen hv
 have hP : Pt pb W S r ts := hP
 have HN0 := Lib.hid (Nx.box hP ⟨3, nn, s, t⟩)
 have hpb := hP.lt
 have HV := Lib.hid hv
 clear hP hv
 simp at hlen
 go_enter Tryz.func46, Tryz.ntmps46
 go_wp2_with fail
 generalize hw : W.alloc (.cells #[.int .i64 3, .int .i64 nn, .string s, .string t] 29) = w0 at HN0 ⊢
 clear hw
 refine (pr_put pb 3 s w0 S _ _ _ HN0.out.on.pt (by (try simp); omega) rfl).mono ?_
 rintro r0 w1 hD
 obtain ⟨rfl, S1, hN⟩ := HN0.out.step hD
 have HN1 := Lib.hid hN
 clear hD hN HN0
 go_wp2_with fail
 simp [bodyPost, results, Tryz.results46, go_sem]
 exact HN1.out.on.done (by rw [← HV.out])
set_option maxHeartbeats 3200000 in
theorem at_4 (pb : Nat) (nn : Int) (s t : ByteArray) : AtomOk pb ⟨4, nn, s, t⟩ [] ([⟨1, s, 0⟩, tSg wCol, ⟨3, t, 0⟩]) := by
 intro W S r ts vs hP hlen hv
 have hP : Pt pb W S r ts := hP
 have HN0 := Lib.hid (Nx.box hP ⟨4, nn, s, t⟩)
 have hpb := hP.lt
 have HV := Lib.hid hv
 clear hP hv
 simp at hlen
 go_enter Tryz.func46, Tryz.ntmps46
 go_wp2_with fail
 generalize hw : W.alloc (.cells #[.int .i64 4, .int .i64 nn, .string s, .string t] 29) = w0 at HN0 ⊢
 clear hw
 refine (pr_put pb 1 s w0 S _ _ _ HN0.out.on.pt (by (try simp); omega) rfl).mono ?_
 rintro r0 w1 hD
 obtain ⟨rfl, S1, hN⟩ := HN0.out.step hD
 have HN1 := Lib.hid hN
 clear hD hN HN0
 go_wp2_with fail
 refine (pr_sign pb ⟨#[58, 58]⟩ w1 S1 _ _ _ HN1.out.on.pt (by (try simp); omega) rfl).mono ?_
 rintro r0 w2 hD
 obtain ⟨rfl, S2, hN⟩ := HN1.out.step hD
 have HN2 := Lib.hid hN
 clear hD hN HN1
 have d2_t := HN2.out.txt
 go_wp2_with fail
 refine (pr_put pb 3 t w2 S2 _ _ _ HN2.out.on.pt (by (try simp); omega) rfl).mono ?_
 rintro r0 w3 hD
 obtain ⟨rfl, S3, hN⟩ := HN2.out.step hD
 have HN3 := Lib.hid hN
 clear hD hN HN2
 go_wp2_with fail
 simp [bodyPost, results, Tryz.results46, go_sem]
 exact HN3.out.on.done (by rw [← HV.out]; simp [tSg, bsOf, wCol])
set_option maxHeartbeats 3200000 in
theorem at_8 (pb : Nat) (nn : Int) (s t : ByteArray) : AtomOk pb ⟨8, nn, s, t⟩ [] (varT s) := by
 intro W S r ts vs hP hlen hv
 have hP : Pt pb W S r ts := hP
 have HN0 := Lib.hid (Nx.box hP ⟨8, nn, s, t⟩)
 have hpb := hP.lt
 have HV := Lib.hid hv
 clear hP hv
 by_cases hq : ∃ l, s.toList = 63 :: l
 · obtain ⟨l, hq⟩ := hq
   have hvt : varT s = [⟨4, bsOf l, 0⟩] := by unfold varT; rw [hq]; rfl
   have HCC := Lib.hid (cut_yes hq)
   rw [hvt] at hlen HV
   simp at hlen
   clear hvt hq
   go_enter Tryz.func46, Tryz.ntmps46
   go_wp2_with fail
   generalize hw : W.alloc (.cells #[.int .i64 8, .int .i64 nn, .string s, .string t] 29) = w0 at HN0 ⊢
   clear hw
   have d0_s := HN0.out.str
   refine (HCC.out w0).mono ?_
   rintro r0 w0' ⟨rfl, hww⟩
   obtain rfl : w0 = w0' := hww.symm
   go_wp2_with fail
   refine (pr_put pb 4 (bsOf l) w0 S _ _ _ HN0.out.on.pt (by (try simp); omega) rfl).mono ?_
   rintro r0 w1 hD
   obtain ⟨rfl, S1, hN⟩ := HN0.out.step hD
   have HN1 := Lib.hid hN
   clear hD hN HN0
   go_wp2_with fail
   simp [bodyPost, results, Tryz.results46, go_sem]
   exact HN1.out.on.done (by rw [← HV.out])
 · have h63 : ∀ l, s.toList ≠ 63 :: l := fun l e => hq ⟨l, e⟩
   have hvt : varT s = [⟨1, s, 0⟩] := by
     unfold varT
     split
     · rename_i l e; exact absurd e (h63 l)
     · rfl
   have HCC := Lib.hid (cut_no h63)
   rw [hvt] at hlen HV
   simp at hlen
   clear hvt hq h63
   go_enter Tryz.func46, Tryz.ntmps46
   go_wp2_with fail
   generalize hw : W.alloc (.cells #[.int .i64 8, .int .i64 nn, .string s, .string t] 29) = w0 at HN0 ⊢
   clear hw
   have d0_s := HN0.out.str
   refine (HCC.out w0).mono ?_
   rintro r0 w0' ⟨rfl, hww⟩
   obtain rfl : w0 = w0' := hww.symm
   go_wp2_with fail
   refine (pr_put pb 1 s w0 S _ _ _ HN0.out.on.pt (by (try simp); omega) rfl).mono ?_
   rintro r0 w1 hD
   obtain ⟨rfl, S1, hN⟩ := HN0.out.step hD
   have HN1 := Lib.hid hN
   clear hD hN HN0
   go_wp2_with fail
   simp [bodyPost, results, Tryz.results46, go_sem]
   exact HN1.out.on.done (by rw [← HV.out])
set_option maxHeartbeats 3200000 in
theorem at_5 (pb : Nat) (nn : Int) (s t : ByteArray) (ps : List (List Nd)) (hps : ∀ p ∈ ps, ItemOk pb p) (hn : ps.length ≤ 1000000) (hnn : nn = ps.length) : AtomOk pb ⟨5, nn, s, t⟩ (ps.flatten) (tSg [91] :: (itemsT true ps ++ [tSg [93]])) := by
 intro W S r ts vs hP hlen hv
 have hP : Pt pb W S (ps.flatten ++ r) ts := hP
 have HN0 := Lib.hid (Nx.box hP ⟨5, nn, s, t⟩)
 have hpb := hP.lt
 have HV := Lib.hid hv
 clear hP hv
 subst hnn
 have HLS := Lib.hid (pr_list pb [91] [93] ps hps hn)
 clear hps
 go_enter Tryz.func46, Tryz.ntmps46
 go_wp2_with fail
 generalize hw : W.alloc (.cells #[.int .i64 5, .int .i64 ps.length, .string s, .string t] 29) = w0 at HN0 ⊢
 clear hw
 refine (HLS.out w0 S r ts _ HN0.out.on.pt hlen rfl).mono ?_
 rintro r0 w1 hD
 obtain ⟨rfl, S1, hN⟩ := HN0.out.step hD
 have HN1 := Lib.hid hN
 clear hD hN HN0
 go_wp2_with fail
 simp [bodyPost, results, Tryz.results46, go_sem]
 exact HN1.out.on.done (by rw [← HV.out])
set_option maxHeartbeats 3200000 in
theorem at_6 (pb : Nat) (nn : Int) (s t : ByteArray) (ps : List (List Nd)) (hps : ∀ p ∈ ps, ItemOk pb p) (hn : ps.length ≤ 1000000) (hnn : nn = ps.length) : AtomOk pb ⟨6, nn, s, t⟩ (ps.flatten) (tSg [123] :: (itemsT true ps ++ [tSg [125]])) := by
 intro W S r ts vs hP hlen hv
 have hP : Pt pb W S (ps.flatten ++ r) ts := hP
 have HN0 := Lib.hid (Nx.box hP ⟨6, nn, s, t⟩)
 have hpb := hP.lt
 have HV := Lib.hid hv
 clear hP hv
 subst hnn
 have HLS := Lib.hid (pr_list pb [123] [125] ps hps hn)
 clear hps
 go_enter Tryz.func46, Tryz.ntmps46
 go_wp2_with fail
 generalize hw : W.alloc (.cells #[.int .i64 6, .int .i64 ps.length, .string s, .string t] 29) = w0 at HN0 ⊢
 clear hw
 refine (HLS.out w0 S r ts _ HN0.out.on.pt hlen rfl).mono ?_
 rintro r0 w1 hD
 obtain ⟨rfl, S1, hN⟩ := HN0.out.step hD
 have HN1 := Lib.hid hN
 clear hD hN HN0
 go_wp2_with fail
 simp [bodyPost, results, Tryz.results46, go_sem]
 exact HN1.out.on.done (by rw [← HV.out])
end Go.Proofs.YtbggbcnfkcadjaaGreatDoor
