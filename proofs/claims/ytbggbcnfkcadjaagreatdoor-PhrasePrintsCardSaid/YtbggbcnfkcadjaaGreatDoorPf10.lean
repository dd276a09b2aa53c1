/-
  THE WALKS: the printer of words: a part; the steps of next.
-/
import Derived.Test.YtbggbcnfkcadjaaGreatDoorPf09
namespace Go.Proofs.YtbggbcnfkcadjaaGreatDoor
set_option maxRecDepth 100000
open Go.RowKit Go.Sort
def Prints (pb fn : Nat) (x : List Nd) (us : List Tk) : Prop :=
 ∀ (W : World) (S : Qs) (r : List Nd) (ts vs : List Tk), Pt pb W S (x ++ r) ts → ts.length + us.length ≤ 1000000 → ts ++ us = vs → Calls Tryz.prog fn #[.pointer (some ⟨pb, 0, none⟩)] W (Done pb W S r vs)
abbrev NextOk (pb : Nat) (x : List Nd) : Prop := Prints pb 22 x (wordsW x)
def PartOk' (pb l : Nat) (x : List Nd) : Prop :=
 ∀ (W : World) (S : Qs) (r : List Nd) (ts vs : List Tk), Pt pb W S (x ++ r) ts → ts.length + (partT l x).length ≤ 1000000 → ts ++ partT l x = vs → Calls Tryz.prog 40 #[.pointer (some ⟨pb, 0, none⟩), .int .i64 l] W (Done pb W S r vs)
structure On (pb : Nat) (W0 : World) (v0 : Value) (W : World) (S : Qs) (e : List Nd) (ts : List Tk) : Prop where
 pt : Pt pb W S e ts
 fr : Fr pb W0 v0 W S.v
theorem On.start {pb : Nat} {W : World} {S : Qs} {e : List Nd} {ts : List Tk} (h : Pt pb W S e ts) : On pb W S.v W S e ts := ⟨h, Fr.refl _ _ _⟩
theorem On.step {pb : Nat} {W0 : World} {v0 : Value} {W : World} {S : Qs} {e e' : List Nd} {ts ts' : List Tk} {r : Ending} {W' : World} (h : On pb W0 v0 W S e ts) (hd : Done pb W S e' ts' r W') : r = .returned (.tuple #[]) ∧ ∃ S', On pb W0 v0 W' S' e' ts' := by
 obtain ⟨hr, S', h1, h2⟩ := hd
 exact ⟨hr, S', h1, h.fr.trans h2⟩
theorem On.done {pb : Nat} {W0 : World} {S0 : Qs} {W : World} {S : Qs} {e : List Nd} {ts vs : List Tk} (h : On pb W0 S0.v W S e ts) (hv : ts = vs) : Done pb W0 S0 e vs (.returned (.tuple #[])) W := ⟨rfl, S, hv ▸ h.pt, h.fr⟩
theorem nd_first {pb : Nat} {W : World} {S : Qs} {n : Nd} {e : List Nd} {ts : List Tk} (h : Pt pb W S (n :: e) ts) : NdAt W S.b S.o n := by
 obtain ⟨b, o, e1, -, hc⟩ := h.sl (by simp)
 injection e1 with e1
 injection e1 with e1 e2
 subst e1 e2
 have := hc 0 n rfl
 simpa using this
set_option maxHeartbeats 3200000 in
theorem pr_part (pb l : Nat) (x : List Nd) (hne : x ≠ []) (hx : NextOk pb x) : PartOk' pb l x := by
 intro W S r ts vs hP hlen hv
 cases x with
 | nil => exact absurd rfl hne
 | cons n x =>
 have hfst := nd_first hP
 have k0 : W.cell? ⟨pb, 0, none⟩ = some (.slice (some ⟨S.b, S.o, none⟩) ((n :: x) ++ r).length S.c) := hP.blk.cell 0
 have c0 : W.cell? ⟨S.b, S.o, none⟩ = some (.int .i64 n.op) := hfst.1
 have g0 : (0 : Int) < (((n :: x) ++ r).length : Int) := by simp; omega
 generalize hL : ((n :: x) ++ r).length = L at k0 g0
 have H0 := Lib.hid (On.start hP)
 have HX := Lib.hid hx
 have HLV := Lib.hid (pr_level n.op)
 clear hfst hP hL hne hx
 by_cases hc : l ≤ lvlW n.op
 · have hpt : partT l (n :: x) = wordsW (n :: x) := by unfold partT lvlE; rw [if_pos (by simpa using hc)]
   rw [hpt] at hv hlen
   have tl : decide (l ≤ lvlW n.op) = true := by simpa using hc
   have HC := Lib.hid (HX.out W S r ts vs H0.out.pt hlen hv)
   clear hpt hv hlen hc
   go_enter Tryz.func40, Tryz.ntmps40
   go_wp2_with fail
   refine (HLV.out W).mono ?_
   rintro r0 W1 ⟨rfl, rfl⟩
   go_wp2_with fail
   refine HC.out.mono ?_
   rintro r0 W1 hD
   obtain ⟨rfl, S1, hN⟩ := H0.out.step hD
   have HN := Lib.hid hN
   clear hD hN HC H0
   go_wp2_with fail
   simp [bodyPost, results, Tryz.results40, go_sem]
   exact HN.out.done rfl
 · have hpt : partT l (n :: x) = tSg [40] :: (wordsW (n :: x) ++ [tSg [41]]) := by unfold partT lvlE; rw [if_neg (by simpa using hc)]
   rw [hpt] at hv hlen
   have tl : decide (l ≤ lvlW n.op) = false := by simpa using hc
   simp only [List.length_cons, List.length_append, List.length_nil] at hlen
   have HV := Lib.hid hv
   clear hpt hv hc
   go_enter Tryz.func40, Tryz.ntmps40
   go_wp2_with fail
   refine (HLV.out W).mono ?_
   rintro r0 W1 ⟨rfl, rfl⟩
   go_wp2_with fail
   refine (pr_sign pb ⟨#[40]⟩ W1 S _ ts _ H0.out.pt (by omega) rfl).mono ?_
   rintro r0 W2 hD
   obtain ⟨rfl, S2, hN⟩ := H0.out.step hD
   have H2 := Lib.hid hN
   clear hD hN H0
   go_wp2_with fail
   refine (HX.out W2 S2 r _ _ H2.out.pt (by simp only [List.length_append, List.length_cons, List.length_nil]; omega) rfl).mono ?_
   rintro r0 W3 hD
   obtain ⟨rfl, S3, hN⟩ := H2.out.step hD
   have H3 := Lib.hid hN
   clear hD hN H2
   go_wp2_with fail
   refine (pr_sign pb ⟨#[41]⟩ W3 S3 _ _ _ H3.out.pt (by simp only [List.length_append, List.length_cons, List.length_nil]; omega) rfl).mono ?_
   rintro r0 W4 hD
   obtain ⟨rfl, S4, hN⟩ := H3.out.step hD
   have H4 := Lib.hid hN
   clear hD hN H3
   go_wp2_with fail
   simp [bodyPost, results, Tryz.results40, go_sem]
   exact H4.out.done (by rw [← HV.out]; simp [tSg, bsOf])
structure Nx (pb : Nat) (W0 : World) (v0 : Value) (nb : Nat) (n : Nd) (W : World) (S : Qs) (e : List Nd) (ts : List Tk) : Prop where
 on : On pb W0 v0 W S e ts
 nd : NdAt W nb 0 n
 lt : nb < W.heap.size
 ne : nb ≠ pb
 no : some nb ≠ S.v.ownBlock
theorem Nx.step {pb : Nat} {W0 : World} {v0 : Value} {nb : Nat} {n : Nd} {W : World} {S : Qs} {e e' : List Nd} {ts ts' : List Tk} {r : Ending} {W' : World} (h : Nx pb W0 v0 nb n W S e ts) (hd : Done pb W S e' ts' r W') : r = .returned (.tuple #[]) ∧ ∃ S', Nx pb W0 v0 nb n W' S' e' ts' := by
 obtain ⟨hr, S', h1, h2⟩ := hd
 refine ⟨hr, S', ⟨h1, h.on.fr.trans h2⟩, h2.node h.nd h.lt h.ne h.no, Nat.lt_of_lt_of_le h.lt h2.size, h.ne, ?_⟩
 rcases h2.own with e1 | ⟨b, e1, hb⟩
 · rw [e1]; exact h.no
 · rw [e1]; intro e2; injection e2 with e2; have := h.lt; omega
theorem NdSl.rest {W : World} {B b o : Nat} {n : Nd} {e : List Nd} (h : NdSl W B (some ⟨b, o, none⟩) (n :: e)) : NdSl W B (some ⟨b, o + 4, none⟩) e := fun _ => by
 obtain ⟨b', o', e1, hb, hc⟩ := h (by simp)
 injection e1 with e1
 injection e1 with e1 e2
 subst e1 e2
 refine ⟨b, o + 4, rfl, hb, fun k y hk => ?_⟩
 have := hc (k + 1) y (by simpa using hk)
 rwa [show o + (k + 1) * 4 = o + 4 + k * 4 by omega] at this
def nxo (c o : Nat) : Nat := if c = 1 then o else o + 4
theorem sl_rest (b o L c : Nat) (W : World) : (Instr.slice 22 (.slice (some ⟨b, o, none⟩) (L + 1) c) (some (.int .i64 1)) none none).run Tryz.prog W = .ok (.slice (some ⟨b, nxo c o, none⟩) L (c - 1)) W := by
 unfold nxo
 go_simp
 split
 · split <;> rfl
 · omega
theorem NdSl.nxo {W : World} {B b o c : Nat} {n : Nd} {e : List Nd} (h : NdSl W B (some ⟨b, o, none⟩) (n :: e)) (hc : e.length + 1 ≤ c) : NdSl W B (some ⟨b, Proofs.YtbggbcnfkcadjaaGreatDoor.nxo c o, none⟩) e := by
 unfold Proofs.YtbggbcnfkcadjaaGreatDoor.nxo
 split
 · rename_i h1
   subst h1
   have : e = [] := List.length_eq_zero_iff.1 (by omega)
   subst this
   exact NdSl.nil _ _ _
 · exact h.rest
theorem Pt.one {pb : Nat} {W : World} {S : Qs} {n : Nd} {e : List Nd} {ts : List Tk} {L : Nat} (h : Pt pb W S (n :: e) ts) (hL : e.length = L) :
   Pt pb (W.setCell ⟨pb, 0, none⟩ (.slice (some ⟨S.b, nxo S.c S.o, none⟩) L (S.c - 1))) ⟨S.b, nxo S.c S.o, S.c - 1, S.v⟩ e ts ∧ Fr pb W S.v (W.setCell ⟨pb, 0, none⟩ (.slice (some ⟨S.b, nxo S.c S.o, none⟩) L (S.c - 1))) S.v := by
 subst hL
 have hle := h.le
 have hmx := h.mx
 simp only [List.length_cons] at hle
 have hfr : Fr pb W S.v (W.setCell ⟨pb, 0, none⟩ (.slice (some ⟨S.b, nxo S.c S.o, none⟩) e.length (S.c - 1))) S.v := ⟨rfl, rfl, rfl, by simp, fun k _ hn _ => Below.heap_setCell W _ _ k hn, .inl rfl⟩
 refine ⟨⟨h.blk.set 0 _, own_farQ h.row (by simp) _, ?_, by show _ ≤ S.c - 1; omega, by show S.c - 1 ≤ _; omega, h.hb, fun w' hb' => h.gl w' ((Fr.below (s' := S) h hfr).trans hb')⟩, hfr⟩
 have hs := h.sl.nxo hle
 exact hs.keep fun p hp => World.cell?_of_block (Below.heap_setCell W _ _ p.block (by show p.block ≠ pb; omega))
theorem Nx.start {pb : Nat} {W : World} {S : Qs} {n : Nd} {e : List Nd} {ts : List Tk} {L : Nat} (h : Pt pb W S (n :: e) ts) (hL : e.length = L) :
   Nx pb W S.v W.heap.size n ((W.setCell ⟨pb, 0, none⟩ (.slice (some ⟨S.b, nxo S.c S.o, none⟩) L (S.c - 1))).alloc (.cells #[.int .i64 n.op, .int .i64 n.n, .string n.s, .string n.t] 29)) ⟨S.b, nxo S.c S.o, S.c - 1, S.v⟩ e ts := by
 obtain ⟨p1, p2⟩ := h.one hL
 have hpb := h.lt
 generalize hw : W.setCell ⟨pb, 0, none⟩ (.slice (some ⟨S.b, nxo S.c S.o, none⟩) L (S.c - 1)) = W1 at p1 p2 ⊢
 have hsz : W1.heap.size = W.heap.size := by rw [← hw]; simp [World.setCell]
 have hb0 : RowKit.Below W1.heap.size W1 (W1.alloc (.cells #[.int .i64 n.op, .int .i64 n.n, .string n.s, .string n.t] 29)) := by (repeat (first | assumption | exact Below.refl _ _ | apply Below.drew | apply below_drewN | (refine Below.alloc ?_ (by first | exact Nat.le_refl _ | omega | (simp; done) | (simp; omega)) _)))
 refine ⟨⟨p1.below hb0, p2.trans (Fr.of_below hb0 S.v)⟩, ?_, by simp; omega, by omega, fun e1 => by have := h.own e1.symm; omega⟩
 have hB := Blk.new W1 29 #[.int .i64 n.op, .int .i64 n.n, .string n.s, .string n.t]
 rw [hsz] at hB
 exact ⟨hB.cell 0, hB.cell 1, hB.cell 2, hB.cell 3⟩
theorem Nx.op {pb : Nat} {W0 : World} {v0 : Value} {nb : Nat} {n : Nd} {W : World} {S : Qs} {e : List Nd} {ts : List Tk} (h : Nx pb W0 v0 nb n W S e ts) : W.cell? ⟨nb, 0, none⟩ = some (.int .i64 n.op) := h.nd.c0
theorem Nx.num {pb : Nat} {W0 : World} {v0 : Value} {nb : Nat} {n : Nd} {W : World} {S : Qs} {e : List Nd} {ts : List Tk} (h : Nx pb W0 v0 nb n W S e ts) : W.cell? ⟨nb, 1, none⟩ = some (.int .i64 n.n) := by have := h.nd.c1; rwa [Nat.zero_add] at this
theorem Nx.str {pb : Nat} {W0 : World} {v0 : Value} {nb : Nat} {n : Nd} {W : World} {S : Qs} {e : List Nd} {ts : List Tk} (h : Nx pb W0 v0 nb n W S e ts) : W.cell? ⟨nb, 2, none⟩ = some (.string n.s) := by have := h.nd.c2; rwa [Nat.zero_add] at this
theorem Nx.txt {pb : Nat} {W0 : World} {v0 : Value} {nb : Nat} {n : Nd} {W : World} {S : Qs} {e : List Nd} {ts : List Tk} (h : Nx pb W0 v0 nb n W S e ts) : W.cell? ⟨nb, 3, none⟩ = some (.string n.t) := by have := h.nd.c3; rwa [Nat.zero_add] at this
set_option maxHeartbeats 3200000 in
theorem nx_not (pb : Nat) (nn : Int) (s t : ByteArray) (a : List Nd) (ha : PartOk' pb 6 a) : Prints pb 22 (⟨9, nn, s, t⟩ :: a) (tSg [33] :: partT 6 a) := by
 intro W S r ts vs hP hlen hv
 have hP : Pt pb W S (⟨9, nn, s, t⟩ :: (a ++ r)) ts := by simpa using hP
 obtain ⟨L, hL⟩ : ∃ L, ((a ++ r)).length = L := ⟨_, rfl⟩
 have HN0 := Lib.hid (Nx.start hP hL)
 have hpb := hP.lt
 have hfst := nd_first hP
 have k0 : W.cell? ⟨pb, 0, none⟩ = some (.slice (some ⟨S.b, S.o, none⟩) (L + 1) S.c) := by have := hP.blk.cell 0; rw [List.length_cons, hL] at this; exact this
 have f0 : W.frozen? ⟨pb, 0, none⟩ = false := hP.blk.frozen 0
 obtain ⟨c0, c1, c2, c3⟩ := hfst
 have hbp := hP.hb
 have hle := hP.le
 have hmx := hP.mx
 have g0 : (0 : Int) < ((L + 1 : Nat) : Int) := by omega
 rw [List.length_cons, hL] at hle
 have q := sl_rest S.b S.o L S.c
 have HV := Lib.hid hv
 try simp at hlen
 clear hP hv hL
 go_enter Tryz.func22, Tryz.ntmps22
 go_wp2_with fail
 generalize hw : (W.setCell ⟨pb, 0, none⟩ (.slice (some ⟨S.b, nxo S.c S.o, none⟩) L (S.c - 1))).alloc (.cells #[.int .i64 9, .int .i64 nn, .string s, .string t] 29) = w0 at HN0 ⊢
 clear hw k0 f0 c0 c1 c2 c3 hbp hle hmx g0 q
 refine (pr_sign pb ⟨#[33]⟩ w0 ⟨S.b, nxo S.c S.o, S.c - 1, S.v⟩ _ _ _ HN0.out.on.pt (by (try simp); omega) rfl).mono ?_
 rintro r0 w1 hD
 obtain ⟨rfl, S1, hN⟩ := HN0.out.step hD
 have HN1 := Lib.hid hN
 clear hD hN HN0
 go_wp2_with fail
 refine (ha w1 S1 _ _ _ HN1.out.on.pt (by (try simp); omega) rfl).mono ?_
 rintro r0 w2 hD
 obtain ⟨rfl, S2, hN⟩ := HN1.out.step hD
 have HN2 := Lib.hid hN
 clear hD hN HN1
 go_wp2_with fail
 simp [bodyPost, results, Tryz.results22, go_sem]
 exact HN2.out.on.done (by rw [← HV.out]; simp [tSg, bsOf])
set_option maxHeartbeats 3200000 in
theorem nx_12 (pb : Nat) (nn : Int) (s t : ByteArray) (a : List Nd) (b : List Nd) (ha : PartOk' pb 1 a) (hb : PartOk' pb 2 b) : Prints pb 22 (⟨12, nn, s, t⟩ :: (a ++ b)) (partT 1 a ++ tSg (btwW 12) :: partT 2 b) := by
 intro W S r ts vs hP hlen hv
 have hP : Pt pb W S (⟨12, nn, s, t⟩ :: (a ++ (b ++ r))) ts := by simpa using hP
 obtain ⟨L, hL⟩ : ∃ L, ((a ++ (b ++ r))).length = L := ⟨_, rfl⟩
 have HN0 := Lib.hid (Nx.start hP hL)
 have hpb := hP.lt
 have hfst := nd_first hP
 have k0 : W.cell? ⟨pb, 0, none⟩ = some (.slice (some ⟨S.b, S.o, none⟩) (L + 1) S.c) := by have := hP.blk.cell 0; rw [List.length_cons, hL] at this; exact this
 have f0 : W.frozen? ⟨pb, 0, none⟩ = false := hP.blk.frozen 0
 obtain ⟨c0, c1, c2, c3⟩ := hfst
 have hbp := hP.hb
 have hle := hP.le
 have hmx := hP.mx
 have g0 : (0 : Int) < ((L + 1 : Nat) : Int) := by omega
 rw [List.length_cons, hL] at hle
 have q := sl_rest S.b S.o L S.c
 have HV := Lib.hid hv
 try simp at hlen
 clear hP hv hL
 have HLV : Hid (∀ W, Calls Tryz.prog 41 #[.int .i64 12] W fun r W' => r = .returned (.int .i64 1) ∧ W' = W) := pr_level 12
 have HBT := Lib.hid (pr_between 12)
 go_enter Tryz.func22, Tryz.ntmps22
 go_wp2_with fail
 generalize hw : (W.setCell ⟨pb, 0, none⟩ (.slice (some ⟨S.b, nxo S.c S.o, none⟩) L (S.c - 1))).alloc (.cells #[.int .i64 12, .int .i64 nn, .string s, .string t] 29) = w0 at HN0 ⊢
 clear hw k0 f0 c0 c1 c2 c3 hbp hle hmx g0 q
 refine (HLV.out w0).mono ?_
 rintro r0 w0' ⟨rfl, hww⟩
 obtain rfl : w0 = w0' := hww.symm
 go_wp2_with fail
 refine (ha w0 ⟨S.b, nxo S.c S.o, S.c - 1, S.v⟩ _ _ _ HN0.out.on.pt (by (try simp); omega) rfl).mono ?_
 rintro r0 w1 hD
 obtain ⟨rfl, S1, hN⟩ := HN0.out.step hD
 have HN1 := Lib.hid hN
 clear hD hN HN0
 have d1_op := HN1.out.op
 go_wp2_with fail
 refine (HBT.out w1).mono ?_
 rintro r0 w1' ⟨rfl, hww⟩
 obtain rfl : w1 = w1' := hww.symm
 go_wp2_with fail
 refine (pr_sign pb (bsOf (btwW 12)) w1 S1 _ _ _ HN1.out.on.pt (by (try simp); omega) rfl).mono ?_
 rintro r0 w2 hD
 obtain ⟨rfl, S2, hN⟩ := HN1.out.step hD
 have HN2 := Lib.hid hN
 clear hD hN HN1
 have d2_op := HN2.out.op
 go_wp2_with fail
 refine (HLV.out w2).mono ?_
 rintro r0 w2' ⟨rfl, hww⟩
 obtain rfl : w2 = w2' := hww.symm
 go_wp2_with fail
 refine (hb w2 S2 _ _ _ HN2.out.on.pt (by (try simp); omega) rfl).mono ?_
 rintro r0 w3 hD
 obtain ⟨rfl, S3, hN⟩ := HN2.out.step hD
 have HN3 := Lib.hid hN
 clear hD hN HN2
 go_wp2_with fail
 simp [bodyPost, results, Tryz.results22, go_sem]
 exact HN3.out.on.done (by rw [← HV.out]; simp [tSg])
set_option maxHeartbeats 3200000 in
theorem nx_11 (pb : Nat) (nn : Int) (s t : ByteArray) (a : List Nd) (b : List Nd) (ha : PartOk' pb 2 a) (hb : PartOk' pb 3 b) : Prints pb 22 (⟨11, nn, s, t⟩ :: (a ++ b)) (partT 2 a ++ tSg (btwW 11) :: partT 3 b) := by
 intro W S r ts vs hP hlen hv
 have hP : Pt pb W S (⟨11, nn, s, t⟩ :: (a ++ (b ++ r))) ts := by simpa using hP
 obtain ⟨L, hL⟩ : ∃ L, ((a ++ (b ++ r))).length = L := ⟨_, rfl⟩
 have HN0 := Lib.hid (Nx.start hP hL)
 have hpb := hP.lt
 have hfst := nd_first hP
 have k0 : W.cell? ⟨pb, 0, none⟩ = some (.slice (some ⟨S.b, S.o, none⟩) (L + 1) S.c) := by have := hP.blk.cell 0; rw [List.length_cons, hL] at this; exact this
 have f0 : W.frozen? ⟨pb, 0, none⟩ = false := hP.blk.frozen 0
 obtain ⟨c0, c1, c2, c3⟩ := hfst
 have hbp := hP.hb
 have hle := hP.le
 have hmx := hP.mx
 have g0 : (0 : Int) < ((L + 1 : Nat) : Int) := by omega
 rw [List.length_cons, hL] at hle
 have q := sl_rest S.b S.o L S.c
 have HV := Lib.hid hv
 try simp at hlen
 clear hP hv hL
 have HLV : Hid (∀ W, Calls Tryz.prog 41 #[.int .i64 11] W fun r W' => r = .returned (.int .i64 2) ∧ W' = W) := pr_level 11
 have HBT := Lib.hid (pr_between 11)
 go_enter Tryz.func22, Tryz.ntmps22
 go_wp2_with fail
 generalize hw : (W.setCell ⟨pb, 0, none⟩ (.slice (some ⟨S.b, nxo S.c S.o, none⟩) L (S.c - 1))).alloc (.cells #[.int .i64 11, .int .i64 nn, .string s, .string t] 29) = w0 at HN0 ⊢
 clear hw k0 f0 c0 c1 c2 c3 hbp hle hmx g0 q
 refine (HLV.out w0).mono ?_
 rintro r0 w0' ⟨rfl, hww⟩
 obtain rfl : w0 = w0' := hww.symm
 go_wp2_with fail
 refine (ha w0 ⟨S.b, nxo S.c S.o, S.c - 1, S.v⟩ _ _ _ HN0.out.on.pt (by (try simp); omega) rfl).mono ?_
 rintro r0 w1 hD
 obtain ⟨rfl, S1, hN⟩ := HN0.out.step hD
 have HN1 := Lib.hid hN
 clear hD hN HN0
 have d1_op := HN1.out.op
 go_wp2_with fail
 refine (HBT.out w1).mono ?_
 rintro r0 w1' ⟨rfl, hww⟩
 obtain rfl : w1 = w1' := hww.symm
 go_wp2_with fail
 refine (pr_sign pb (bsOf (btwW 11)) w1 S1 _ _ _ HN1.out.on.pt (by (try simp); omega) rfl).mono ?_
 rintro r0 w2 hD
 obtain ⟨rfl, S2, hN⟩ := HN1.out.step hD
 have HN2 := Lib.hid hN
 clear hD hN HN1
 have d2_op := HN2.out.op
 go_wp2_with fail
 refine (HLV.out w2).mono ?_
 rintro r0 w2' ⟨rfl, hww⟩
 obtain rfl : w2 = w2' := hww.symm
 go_wp2_with fail
 refine (hb w2 S2 _ _ _ HN2.out.on.pt (by (try simp); omega) rfl).mono ?_
 rintro r0 w3 hD
 obtain ⟨rfl, S3, hN⟩ := HN2.out.step hD
 have HN3 := Lib.hid hN
 clear hD hN HN2
 go_wp2_with fail
 simp [bodyPost, results, Tryz.results22, go_sem]
 exact HN3.out.on.done (by rw [← HV.out]; simp [tSg])
set_option maxHeartbeats 3200000 in
theorem nx_17 (pb : Nat) (nn : Int) (s t : ByteArray) (a : List Nd) (b : List Nd) (ha : PartOk' pb 4 a) (hb : PartOk' pb 5 b) : Prints pb 22 (⟨17, nn, s, t⟩ :: (a ++ b)) (partT 4 a ++ tSg (btwW 17) :: partT 5 b) := by
 intro W S r ts vs hP hlen hv
 have hP : Pt pb W S (⟨17, nn, s, t⟩ :: (a ++ (b ++ r))) ts := by simpa using hP
 obtain ⟨L, hL⟩ : ∃ L, ((a ++ (b ++ r))).length = L := ⟨_, rfl⟩
 have HN0 := Lib.hid (Nx.start hP hL)
 have hpb := hP.lt
 have hfst := nd_first hP
 have k0 : W.cell? ⟨pb, 0, none⟩ = some (.slice (some ⟨S.b, S.o, none⟩) (L + 1) S.c) := by have := hP.blk.cell 0; rw [List.length_cons, hL] at this; exact this
 have f0 : W.frozen? ⟨pb, 0, none⟩ = false := hP.blk.frozen 0
 obtain ⟨c0, c1, c2, c3⟩ := hfst
 have hbp := hP.hb
 have hle := hP.le
 have hmx := hP.mx
 have g0 : (0 : Int) < ((L + 1 : Nat) : Int) := by omega
 rw [List.length_cons, hL] at hle
 have q := sl_rest S.b S.o L S.c
 have HV := Lib.hid hv
 try simp at hlen
 clear hP hv hL
 have HLV : Hid (∀ W, Calls Tryz.prog 41 #[.int .i64 17] W fun r W' => r = .returned (.int .i64 4) ∧ W' = W) := pr_level 17
 have HBT := Lib.hid (pr_between 17)
 go_enter Tryz.func22, Tryz.ntmps22
 go_wp2_with fail
 generalize hw : (W.setCell ⟨pb, 0, none⟩ (.slice (some ⟨S.b, nxo S.c S.o, none⟩) L (S.c - 1))).alloc (.cells #[.int .i64 17, .int .i64 nn, .string s, .string t] 29) = w0 at HN0 ⊢
 clear hw k0 f0 c0 c1 c2 c3 hbp hle hmx g0 q
 refine (HLV.out w0).mono ?_
 rintro r0 w0' ⟨rfl, hww⟩
 obtain rfl : w0 = w0' := hww.symm
 go_wp2_with fail
 refine (ha w0 ⟨S.b, nxo S.c S.o, S.c - 1, S.v⟩ _ _ _ HN0.out.on.pt (by (try simp); omega) rfl).mono ?_
 rintro r0 w1 hD
 obtain ⟨rfl, S1, hN⟩ := HN0.out.step hD
 have HN1 := Lib.hid hN
 clear hD hN HN0
 have d1_op := HN1.out.op
 go_wp2_with fail
 refine (HBT.out w1).mono ?_
 rintro r0 w1' ⟨rfl, hww⟩
 obtain rfl : w1 = w1' := hww.symm
 go_wp2_with fail
 refine (pr_sign pb (bsOf (btwW 17)) w1 S1 _ _ _ HN1.out.on.pt (by (try simp); omega) rfl).mono ?_
 rintro r0 w2 hD
 obtain ⟨rfl, S2, hN⟩ := HN1.out.step hD
 have HN2 := Lib.hid hN
 clear hD hN HN1
 have d2_op := HN2.out.op
 go_wp2_with fail
 refine (HLV.out w2).mono ?_
 rintro r0 w2' ⟨rfl, hww⟩
 obtain rfl : w2 = w2' := hww.symm
 go_wp2_with fail
 refine (hb w2 S2 _ _ _ HN2.out.on.pt (by (try simp); omega) rfl).mono ?_
 rintro r0 w3 hD
 obtain ⟨rfl, S3, hN⟩ := HN2.out.step hD
 have HN3 := Lib.hid hN
 clear hD hN HN2
 go_wp2_with fail
 simp [bodyPost, results, Tryz.results22, go_sem]
 exact HN3.out.on.done (by rw [← HV.out]; simp [tSg])
set_option maxHeartbeats 3200000 in
theorem nx_18 (pb : Nat) (nn : Int) (s t : ByteArray) (a : List Nd) (b : List Nd) (ha : PartOk' pb 4 a) (hb : PartOk' pb 5 b) : Prints pb 22 (⟨18, nn, s, t⟩ :: (a ++ b)) (partT 4 a ++ tSg (btwW 18) :: partT 5 b) := by
 intro W S r ts vs hP hlen hv
 have hP : Pt pb W S (⟨18, nn, s, t⟩ :: (a ++ (b ++ r))) ts := by simpa using hP
 obtain ⟨L, hL⟩ : ∃ L, ((a ++ (b ++ r))).length = L := ⟨_, rfl⟩
 have HN0 := Lib.hid (Nx.start hP hL)
 have hpb := hP.lt
 have hfst := nd_first hP
 have k0 : W.cell? ⟨pb, 0, none⟩ = some (.slice (some ⟨S.b, S.o, none⟩) (L + 1) S.c) := by have := hP.blk.cell 0; rw [List.length_cons, hL] at this; exact this
 have f0 : W.frozen? ⟨pb, 0, none⟩ = false := hP.blk.frozen 0
 obtain ⟨c0, c1, c2, c3⟩ := hfst
 have hbp := hP.hb
 have hle := hP.le
 have hmx := hP.mx
 have g0 : (0 : Int) < ((L + 1 : Nat) : Int) := by omega
 rw [List.length_cons, hL] at hle
 have q := sl_rest S.b S.o L S.c
 have HV := Lib.hid hv
 try simp at hlen
 clear hP hv hL
 have HLV : Hid (∀ W, Calls Tryz.prog 41 #[.int .i64 18] W fun r W' => r = .returned (.int .i64 4) ∧ W' = W) := pr_level 18
 have HBT := Lib.hid (pr_between 18)
 go_enter Tryz.func22, Tryz.ntmps22
 go_wp2_with fail
 generalize hw : (W.setCell ⟨pb, 0, none⟩ (.slice (some ⟨S.b, nxo S.c S.o, none⟩) L (S.c - 1))).alloc (.cells #[.int .i64 18, .int .i64 nn, .string s, .string t] 29) = w0 at HN0 ⊢
 clear hw k0 f0 c0 c1 c2 c3 hbp hle hmx g0 q
 refine (HLV.out w0).mono ?_
 rintro r0 w0' ⟨rfl, hww⟩
 obtain rfl : w0 = w0' := hww.symm
 go_wp2_with fail
 refine (ha w0 ⟨S.b, nxo S.c S.o, S.c - 1, S.v⟩ _ _ _ HN0.out.on.pt (by (try simp); omega) rfl).mono ?_
 rintro r0 w1 hD
 obtain ⟨rfl, S1, hN⟩ := HN0.out.step hD
 have HN1 := Lib.hid hN
 clear hD hN HN0
 have d1_op := HN1.out.op
 go_wp2_with fail
 refine (HBT.out w1).mono ?_
 rintro r0 w1' ⟨rfl, hww⟩
 obtain rfl : w1 = w1' := hww.symm
 go_wp2_with fail
 refine (pr_sign pb (bsOf (btwW 18)) w1 S1 _ _ _ HN1.out.on.pt (by (try simp); omega) rfl).mono ?_
 rintro r0 w2 hD
 obtain ⟨rfl, S2, hN⟩ := HN1.out.step hD
 have HN2 := Lib.hid hN
 clear hD hN HN1
 have d2_op := HN2.out.op
 go_wp2_with fail
 refine (HLV.out w2).mono ?_
 rintro r0 w2' ⟨rfl, hww⟩
 obtain rfl : w2 = w2' := hww.symm
 go_wp2_with fail
 refine (hb w2 S2 _ _ _ HN2.out.on.pt (by (try simp); omega) rfl).mono ?_
 rintro r0 w3 hD
 obtain ⟨rfl, S3, hN⟩ := HN2.out.step hD
 have HN3 := Lib.hid hN
 clear hD hN HN2
 go_wp2_with fail
 simp [bodyPost, results, Tryz.results22, go_sem]
 exact HN3.out.on.done (by rw [← HV.out]; simp [tSg])
set_option maxHeartbeats 3200000 in
theorem nx_19 (pb : Nat) (nn : Int) (s t : ByteArray) (a : List Nd) (b : List Nd) (ha : PartOk' pb 5 a) (hb : PartOk' pb 6 b) : Prints pb 22 (⟨19, nn, s, t⟩ :: (a ++ b)) (partT 5 a ++ tSg (btwW 19) :: partT 6 b) := by
 intro W S r ts vs hP hlen hv
 have hP : Pt pb W S (⟨19, nn, s, t⟩ :: (a ++ (b ++ r))) ts := by simpa using hP
 obtain ⟨L, hL⟩ : ∃ L, ((a ++ (b ++ r))).length = L := ⟨_, rfl⟩
 have HN0 := Lib.hid (Nx.start hP hL)
 have hpb := hP.lt
 have hfst := nd_first hP
 have k0 : W.cell? ⟨pb, 0, none⟩ = some (.slice (some ⟨S.b, S.o, none⟩) (L + 1) S.c) := by have := hP.blk.cell 0; rw [List.length_cons, hL] at this; exact this
 have f0 : W.frozen? ⟨pb, 0, none⟩ = false := hP.blk.frozen 0
 obtain ⟨c0, c1, c2, c3⟩ := hfst
 have hbp := hP.hb
 have hle := hP.le
 have hmx := hP.mx
 have g0 : (0 : Int) < ((L + 1 : Nat) : Int) := by omega
 rw [List.length_cons, hL] at hle
 have q := sl_rest S.b S.o L S.c
 have HV := Lib.hid hv
 try simp at hlen
 clear hP hv hL
 have HLV : Hid (∀ W, Calls Tryz.prog 41 #[.int .i64 19] W fun r W' => r = .returned (.int .i64 5) ∧ W' = W) := pr_level 19
 have HBT := Lib.hid (pr_between 19)
 go_enter Tryz.func22, Tryz.ntmps22
 go_wp2_with fail
 generalize hw : (W.setCell ⟨pb, 0, none⟩ (.slice (some ⟨S.b, nxo S.c S.o, none⟩) L (S.c - 1))).alloc (.cells #[.int .i64 19, .int .i64 nn, .string s, .string t] 29) = w0 at HN0 ⊢
 clear hw k0 f0 c0 c1 c2 c3 hbp hle hmx g0 q
 refine (HLV.out w0).mono ?_
 rintro r0 w0' ⟨rfl, hww⟩
 obtain rfl : w0 = w0' := hww.symm
 go_wp2_with fail
 refine (ha w0 ⟨S.b, nxo S.c S.o, S.c - 1, S.v⟩ _ _ _ HN0.out.on.pt (by (try simp); omega) rfl).mono ?_
 rintro r0 w1 hD
 obtain ⟨rfl, S1, hN⟩ := HN0.out.step hD
 have HN1 := Lib.hid hN
 clear hD hN HN0
 have d1_op := HN1.out.op
 go_wp2_with fail
 refine (HBT.out w1).mono ?_
 rintro r0 w1' ⟨rfl, hww⟩
 obtain rfl : w1 = w1' := hww.symm
 go_wp2_with fail
 refine (pr_sign pb (bsOf (btwW 19)) w1 S1 _ _ _ HN1.out.on.pt (by (try simp); omega) rfl).mono ?_
 rintro r0 w2 hD
 obtain ⟨rfl, S2, hN⟩ := HN1.out.step hD
 have HN2 := Lib.hid hN
 clear hD hN HN1
 have d2_op := HN2.out.op
 go_wp2_with fail
 refine (HLV.out w2).mono ?_
 rintro r0 w2' ⟨rfl, hww⟩
 obtain rfl : w2 = w2' := hww.symm
 go_wp2_with fail
 refine (hb w2 S2 _ _ _ HN2.out.on.pt (by (try simp); omega) rfl).mono ?_
 rintro r0 w3 hD
 obtain ⟨rfl, S3, hN⟩ := HN2.out.step hD
 have HN3 := Lib.hid hN
 clear hD hN HN2
 go_wp2_with fail
 simp [bodyPost, results, Tryz.results22, go_sem]
 exact HN3.out.on.done (by rw [← HV.out]; simp [tSg])
set_option maxHeartbeats 3200000 in
theorem nx_14 (pb : Nat) (nn : Int) (s t : ByteArray) (a : List Nd) (b : List Nd) (ha : PartOk' pb 4 a) (hb : PartOk' pb 4 b) : Prints pb 22 (⟨14, nn, s, t⟩ :: (a ++ b)) (partT 4 a ++ nmdW (btwW 14) :: partT 4 b) := by
 intro W S r ts vs hP hlen hv
 have hP : Pt pb W S (⟨14, nn, s, t⟩ :: (a ++ (b ++ r))) ts := by simpa using hP
 obtain ⟨L, hL⟩ : ∃ L, ((a ++ (b ++ r))).length = L := ⟨_, rfl⟩
 have HN0 := Lib.hid (Nx.start hP hL)
 have hpb := hP.lt
 have hfst := nd_first hP
 have k0 : W.cell? ⟨pb, 0, none⟩ = some (.slice (some ⟨S.b, S.o, none⟩) (L + 1) S.c) := by have := hP.blk.cell 0; rw [List.length_cons, hL] at this; exact this
 have f0 : W.frozen? ⟨pb, 0, none⟩ = false := hP.blk.frozen 0
 obtain ⟨c0, c1, c2, c3⟩ := hfst
 have hbp := hP.hb
 have hle := hP.le
 have hmx := hP.mx
 have g0 : (0 : Int) < ((L + 1 : Nat) : Int) := by omega
 rw [List.length_cons, hL] at hle
 have q := sl_rest S.b S.o L S.c
 have HV := Lib.hid hv
 try simp at hlen
 clear hP hv hL
 have HBT := Lib.hid (pr_between 14)
 go_enter Tryz.func22, Tryz.ntmps22
 go_wp2_with fail
 generalize hw : (W.setCell ⟨pb, 0, none⟩ (.slice (some ⟨S.b, nxo S.c S.o, none⟩) L (S.c - 1))).alloc (.cells #[.int .i64 14, .int .i64 nn, .string s, .string t] 29) = w0 at HN0 ⊢
 clear hw k0 f0 c0 c1 c2 c3 hbp hle hmx g0 q
 refine (ha w0 ⟨S.b, nxo S.c S.o, S.c - 1, S.v⟩ _ _ _ HN0.out.on.pt (by (try simp); omega) rfl).mono ?_
 rintro r0 w1 hD
 obtain ⟨rfl, S1, hN⟩ := HN0.out.step hD
 have HN1 := Lib.hid hN
 clear hD hN HN0
 have d1_op := HN1.out.op
 go_wp2_with fail
 refine (HBT.out w1).mono ?_
 rintro r0 w1' ⟨rfl, hww⟩
 obtain rfl : w1 = w1' := hww.symm
 go_wp2_with fail
 refine (pr_named pb (bsOf (btwW 14)) w1 S1 _ _ _ (btwW 14) rfl (by decide) HN1.out.on.pt (by (try simp); omega) rfl).mono ?_
 rintro r0 w2 hD
 obtain ⟨rfl, S2, hN⟩ := HN1.out.step hD
 have HN2 := Lib.hid hN
 clear hD hN HN1
 go_wp2_with fail
 refine (hb w2 S2 _ _ _ HN2.out.on.pt (by (try simp); omega) rfl).mono ?_
 rintro r0 w3 hD
 obtain ⟨rfl, S3, hN⟩ := HN2.out.step hD
 have HN3 := Lib.hid hN
 clear hD hN HN2
 go_wp2_with fail
 simp [bodyPost, results, Tryz.results22, go_sem]
 exact HN3.out.on.done (by rw [← HV.out]; simp)
set_option maxHeartbeats 3200000 in
theorem nx_15 (pb : Nat) (nn : Int) (s t : ByteArray) (a : List Nd) (b : List Nd) (ha : PartOk' pb 4 a) (hb : PartOk' pb 4 b) : Prints pb 22 (⟨15, nn, s, t⟩ :: (a ++ b)) (partT 4 a ++ nmdW (btwW 15) :: partT 4 b) := by
 intro W S r ts vs hP hlen hv
 have hP : Pt pb W S (⟨15, nn, s, t⟩ :: (a ++ (b ++ r))) ts := by simpa using hP
 obtain ⟨L, hL⟩ : ∃ L, ((a ++ (b ++ r))).length = L := ⟨_, rfl⟩
 have HN0 := Lib.hid (Nx.start hP hL)
 have hpb := hP.lt
 have hfst := nd_first hP
 have k0 : W.cell? ⟨pb, 0, none⟩ = some (.slice (some ⟨S.b, S.o, none⟩) (L + 1) S.c) := by have := hP.blk.cell 0; rw [List.length_cons, hL] at this; exact this
 have f0 : W.frozen? ⟨pb, 0, none⟩ = false := hP.blk.frozen 0
 obtain ⟨c0, c1, c2, c3⟩ := hfst
 have hbp := hP.hb
 have hle := hP.le
 have hmx := hP.mx
 have g0 : (0 : Int) < ((L + 1 : Nat) : Int) := by omega
 rw [List.length_cons, hL] at hle
 have q := sl_rest S.b S.o L S.c
 have HV := Lib.hid hv
 try simp at hlen
 clear hP hv hL
 have HBT := Lib.hid (pr_between 15)
 go_enter Tryz.func22, Tryz.ntmps22
 go_wp2_with fail
 generalize hw : (W.setCell ⟨pb, 0, none⟩ (.slice (some ⟨S.b, nxo S.c S.o, none⟩) L (S.c - 1))).alloc (.cells #[.int .i64 15, .int .i64 nn, .string s, .string t] 29) = w0 at HN0 ⊢
 clear hw k0 f0 c0 c1 c2 c3 hbp hle hmx g0 q
 refine (ha w0 ⟨S.b, nxo S.c S.o, S.c - 1, S.v⟩ _ _ _ HN0.out.on.pt (by (try simp); omega) rfl).mono ?_
 rintro r0 w1 hD
 obtain ⟨rfl, S1, hN⟩ := HN0.out.step hD
 have HN1 := Lib.hid hN
 clear hD hN HN0
 have d1_op := HN1.out.op
 go_wp2_with fail
 refine (HBT.out w1).mono ?_
 rintro r0 w1' ⟨rfl, hww⟩
 obtain rfl : w1 = w1' := hww.symm
 go_wp2_with fail
 refine (pr_named pb (bsOf (btwW 15)) w1 S1 _ _ _ (btwW 15) rfl (by decide) HN1.out.on.pt (by (try simp); omega) rfl).mono ?_
 rintro r0 w2 hD
 obtain ⟨rfl, S2, hN⟩ := HN1.out.step hD
 have HN2 := Lib.hid hN
 clear hD hN HN1
 go_wp2_with fail
 refine (hb w2 S2 _ _ _ HN2.out.on.pt (by (try simp); omega) rfl).mono ?_
 rintro r0 w3 hD
 obtain ⟨rfl, S3, hN⟩ := HN2.out.step hD
 have HN3 := Lib.hid hN
 clear hD hN HN2
 go_wp2_with fail
 simp [bodyPost, results, Tryz.results22, go_sem]
 exact HN3.out.on.done (by rw [← HV.out]; simp)
set_option maxHeartbeats 3200000 in
theorem nx_16 (pb : Nat) (nn : Int) (s t : ByteArray) (a : List Nd) (b : List Nd) (ha : PartOk' pb 4 a) (hb : PartOk' pb 4 b) : Prints pb 22 (⟨16, nn, s, t⟩ :: (a ++ b)) (partT 4 a ++ nmdW (btwW 16) :: partT 4 b) := by
 intro W S r ts vs hP hlen hv
 have hP : Pt pb W S (⟨16, nn, s, t⟩ :: (a ++ (b ++ r))) ts := by simpa using hP
 obtain ⟨L, hL⟩ : ∃ L, ((a ++ (b ++ r))).length = L := ⟨_, rfl⟩
 have HN0 := Lib.hid (Nx.start hP hL)
 have hpb := hP.lt
 have hfst := nd_first hP
 have k0 : W.cell? ⟨pb, 0, none⟩ = some (.slice (some ⟨S.b, S.o, none⟩) (L + 1) S.c) := by have := hP.blk.cell 0; rw [List.length_cons, hL] at this; exact this
 have f0 : W.frozen? ⟨pb, 0, none⟩ = false := hP.blk.frozen 0
 obtain ⟨c0, c1, c2, c3⟩ := hfst
 have hbp := hP.hb
 have hle := hP.le
 have hmx := hP.mx
 have g0 : (0 : Int) < ((L + 1 : Nat) : Int) := by omega
 rw [List.length_cons, hL] at hle
 have q := sl_rest S.b S.o L S.c
 have HV := Lib.hid hv
 try simp at hlen
 clear hP hv hL
 have HBT := Lib.hid (pr_between 16)
 go_enter Tryz.func22, Tryz.ntmps22
 go_wp2_with fail
 generalize hw : (W.setCell ⟨pb, 0, none⟩ (.slice (some ⟨S.b, nxo S.c S.o, none⟩) L (S.c - 1))).alloc (.cells #[.int .i64 16, .int .i64 nn, .string s, .string t] 29) = w0 at HN0 ⊢
 clear hw k0 f0 c0 c1 c2 c3 hbp hle hmx g0 q
 refine (ha w0 ⟨S.b, nxo S.c S.o, S.c - 1, S.v⟩ _ _ _ HN0.out.on.pt (by (try simp); omega) rfl).mono ?_
 rintro r0 w1 hD
 obtain ⟨rfl, S1, hN⟩ := HN0.out.step hD
 have HN1 := Lib.hid hN
 clear hD hN HN0
 have d1_op := HN1.out.op
 go_wp2_with fail
 refine (HBT.out w1).mono ?_
 rintro r0 w1' ⟨rfl, hww⟩
 obtain rfl : w1 = w1' := hww.symm
 go_wp2_with fail
 refine (pr_named pb (bsOf (btwW 16)) w1 S1 _ _ _ (btwW 16) rfl (by decide) HN1.out.on.pt (by (try simp); omega) rfl).mono ?_
 rintro r0 w2 hD
 obtain ⟨rfl, S2, hN⟩ := HN1.out.step hD
 have HN2 := Lib.hid hN
 clear hD hN HN1
 go_wp2_with fail
 refine (hb w2 S2 _ _ _ HN2.out.on.pt (by (try simp); omega) rfl).mono ?_
 rintro r0 w3 hD
 obtain ⟨rfl, S3, hN⟩ := HN2.out.step hD
 have HN3 := Lib.hid hN
 clear hD hN HN2
 go_wp2_with fail
 simp [bodyPost, results, Tryz.results22, go_sem]
 exact HN3.out.on.done (by rw [← HV.out]; simp)
set_option maxHeartbeats 3200000 in
theorem nx_20 (pb : Nat) (nn : Int) (s t : ByteArray) (a : List Nd) (b : List Nd) (ha : PartOk' pb 4 a) (hb : PartOk' pb 4 b) : Prints pb 22 (⟨20, nn, s, t⟩ :: (a ++ b)) (partT 4 a ++ nmdW (btwW 20) :: partT 4 b) := by
 intro W S r ts vs hP hlen hv
 have hP : Pt pb W S (⟨20, nn, s, t⟩ :: (a ++ (b ++ r))) ts := by simpa using hP
 obtain ⟨L, hL⟩ : ∃ L, ((a ++ (b ++ r))).length = L := ⟨_, rfl⟩
 have HN0 := Lib.hid (Nx.start hP hL)
 have hpb := hP.lt
 have hfst := nd_first hP
 have k0 : W.cell? ⟨pb, 0, none⟩ = some (.slice (some ⟨S.b, S.o, none⟩) (L + 1) S.c) := by have := hP.blk.cell 0; rw [List.length_cons, hL] at this; exact this
 have f0 : W.frozen? ⟨pb, 0, none⟩ = false := hP.blk.frozen 0
 obtain ⟨c0, c1, c2, c3⟩ := hfst
 have hbp := hP.hb
 have hle := hP.le
 have hmx := hP.mx
 have g0 : (0 : Int) < ((L + 1 : Nat) : Int) := by omega
 rw [List.length_cons, hL] at hle
 have q := sl_rest S.b S.o L S.c
 have HV := Lib.hid hv
 try simp at hlen
 clear hP hv hL
 have HBT := Lib.hid (pr_between 20)
 go_enter Tryz.func22, Tryz.ntmps22
 go_wp2_with fail
 generalize hw : (W.setCell ⟨pb, 0, none⟩ (.slice (some ⟨S.b, nxo S.c S.o, none⟩) L (S.c - 1))).alloc (.cells #[.int .i64 20, .int .i64 nn, .string s, .string t] 29) = w0 at HN0 ⊢
 clear hw k0 f0 c0 c1 c2 c3 hbp hle hmx g0 q
 refine (ha w0 ⟨S.b, nxo S.c S.o, S.c - 1, S.v⟩ _ _ _ HN0.out.on.pt (by (try simp); omega) rfl).mono ?_
 rintro r0 w1 hD
 obtain ⟨rfl, S1, hN⟩ := HN0.out.step hD
 have HN1 := Lib.hid hN
 clear hD hN HN0
 have d1_op := HN1.out.op
 go_wp2_with fail
 refine (HBT.out w1).mono ?_
 rintro r0 w1' ⟨rfl, hww⟩
 obtain rfl : w1 = w1' := hww.symm
 go_wp2_with fail
 refine (pr_named pb (bsOf (btwW 20)) w1 S1 _ _ _ (btwW 20) rfl (by decide) HN1.out.on.pt (by (try simp); omega) rfl).mono ?_
 rintro r0 w2 hD
 obtain ⟨rfl, S2, hN⟩ := HN1.out.step hD
 have HN2 := Lib.hid hN
 clear hD hN HN1
 go_wp2_with fail
 refine (hb w2 S2 _ _ _ HN2.out.on.pt (by (try simp); omega) rfl).mono ?_
 rintro r0 w3 hD
 obtain ⟨rfl, S3, hN⟩ := HN2.out.step hD
 have HN3 := Lib.hid hN
 clear hD hN HN2
 go_wp2_with fail
 simp [bodyPost, results, Tryz.results22, go_sem]
 exact HN3.out.on.done (by rw [← HV.out]; simp)
set_option maxHeartbeats 3200000 in
theorem nx_21 (pb : Nat) (nn : Int) (s t : ByteArray) (a : List Nd) (ha : PartOk' pb 4 a) : Prints pb 22 (⟨21, nn, s, t⟩ :: a) (partT 4 a ++ [nmdW (btwW 21), ⟨1, s, 0⟩]) := by
 intro W S r ts vs hP hlen hv
 have hP : Pt pb W S (⟨21, nn, s, t⟩ :: (a ++ r)) ts := by simpa using hP
 obtain ⟨L, hL⟩ : ∃ L, ((a ++ r)).length = L := ⟨_, rfl⟩
 have HN0 := Lib.hid (Nx.start hP hL)
 have hpb := hP.lt
 have hfst := nd_first hP
 have k0 : W.cell? ⟨pb, 0, none⟩ = some (.slice (some ⟨S.b, S.o, none⟩) (L + 1) S.c) := by have := hP.blk.cell 0; rw [List.length_cons, hL] at this; exact this
 have f0 : W.frozen? ⟨pb, 0, none⟩ = false := hP.blk.frozen 0
 obtain ⟨c0, c1, c2, c3⟩ := hfst
 have hbp := hP.hb
 have hle := hP.le
 have hmx := hP.mx
 have g0 : (0 : Int) < ((L + 1 : Nat) : Int) := by omega
 rw [List.length_cons, hL] at hle
 have q := sl_rest S.b S.o L S.c
 have HV := Lib.hid hv
 try simp at hlen
 clear hP hv hL
 have HBT := Lib.hid (pr_between 21)
 go_enter Tryz.func22, Tryz.ntmps22
 go_wp2_with fail
 generalize hw : (W.setCell ⟨pb, 0, none⟩ (.slice (some ⟨S.b, nxo S.c S.o, none⟩) L (S.c - 1))).alloc (.cells #[.int .i64 21, .int .i64 nn, .string s, .string t] 29) = w0 at HN0 ⊢
 clear hw k0 f0 c0 c1 c2 c3 hbp hle hmx g0 q
 refine (ha w0 ⟨S.b, nxo S.c S.o, S.c - 1, S.v⟩ _ _ _ HN0.out.on.pt (by (try simp); omega) rfl).mono ?_
 rintro r0 w1 hD
 obtain ⟨rfl, S1, hN⟩ := HN0.out.step hD
 have HN1 := Lib.hid hN
 clear hD hN HN0
 have d1_op := HN1.out.op
 go_wp2_with fail
 refine (HBT.out w1).mono ?_
 rintro r0 w1' ⟨rfl, hww⟩
 obtain rfl : w1 = w1' := hww.symm
 go_wp2_with fail
 refine (pr_named pb (bsOf (btwW 21)) w1 S1 _ _ _ (btwW 21) rfl (by decide) HN1.out.on.pt (by (try simp); omega) rfl).mono ?_
 rintro r0 w2 hD
 obtain ⟨rfl, S2, hN⟩ := HN1.out.step hD
 have HN2 := Lib.hid hN
 clear hD hN HN1
 have d2_op := HN2.out.op
 have d2_str := HN2.out.str
 go_wp2_with fail
 refine (pr_put pb 1 s w2 S2 _ _ _ HN2.out.on.pt (by (try simp); omega) rfl).mono ?_
 rintro r0 w3 hD
 obtain ⟨rfl, S3, hN⟩ := HN2.out.step hD
 have HN3 := Lib.hid hN
 clear hD hN HN2
 go_wp2_with fail
 simp [bodyPost, results, Tryz.results22, go_sem]
 exact HN3.out.on.done (by rw [← HV.out]; simp)
set_option maxHeartbeats 3200000 in
theorem nx_24 (pb : Nat) (nn : Int) (s t : ByteArray) (a : List Nd) (ha : PartOk' pb 4 a) : Prints pb 22 (⟨24, nn, s, t⟩ :: a) (partT 4 a ++ [nmdW (btwW 24), ⟨1, s, 0⟩]) := by
 intro W S r ts vs hP hlen hv
 have hP : Pt pb W S (⟨24, nn, s, t⟩ :: (a ++ r)) ts := by simpa using hP
 obtain ⟨L, hL⟩ : ∃ L, ((a ++ r)).length = L := ⟨_, rfl⟩
 have HN0 := Lib.hid (Nx.start hP hL)
 have hpb := hP.lt
 have hfst := nd_first hP
 have k0 : W.cell? ⟨pb, 0, none⟩ = some (.slice (some ⟨S.b, S.o, none⟩) (L + 1) S.c) := by have := hP.blk.cell 0; rw [List.length_cons, hL] at this; exact this
 have f0 : W.frozen? ⟨pb, 0, none⟩ = false := hP.blk.frozen 0
 obtain ⟨c0, c1, c2, c3⟩ := hfst
 have hbp := hP.hb
 have hle := hP.le
 have hmx := hP.mx
 have g0 : (0 : Int) < ((L + 1 : Nat) : Int) := by omega
 rw [List.length_cons, hL] at hle
 have q := sl_rest S.b S.o L S.c
 have HV := Lib.hid hv
 try simp at hlen
 clear hP hv hL
 have HBT := Lib.hid (pr_between 24)
 go_enter Tryz.func22, Tryz.ntmps22
 go_wp2_with fail
 generalize hw : (W.setCell ⟨pb, 0, none⟩ (.slice (some ⟨S.b, nxo S.c S.o, none⟩) L (S.c - 1))).alloc (.cells #[.int .i64 24, .int .i64 nn, .string s, .string t] 29) = w0 at HN0 ⊢
 clear hw k0 f0 c0 c1 c2 c3 hbp hle hmx g0 q
 refine (ha w0 ⟨S.b, nxo S.c S.o, S.c - 1, S.v⟩ _ _ _ HN0.out.on.pt (by (try simp); omega) rfl).mono ?_
 rintro r0 w1 hD
 obtain ⟨rfl, S1, hN⟩ := HN0.out.step hD
 have HN1 := Lib.hid hN
 clear hD hN HN0
 have d1_op := HN1.out.op
 go_wp2_with fail
 refine (HBT.out w1).mono ?_
 rintro r0 w1' ⟨rfl, hww⟩
 obtain rfl : w1 = w1' := hww.symm
 go_wp2_with fail
 refine (pr_named pb (bsOf (btwW 24)) w1 S1 _ _ _ (btwW 24) rfl (by decide) HN1.out.on.pt (by (try simp); omega) rfl).mono ?_
 rintro r0 w2 hD
 obtain ⟨rfl, S2, hN⟩ := HN1.out.step hD
 have HN2 := Lib.hid hN
 clear hD hN HN1
 have d2_op := HN2.out.op
 have d2_str := HN2.out.str
 go_wp2_with fail
 refine (pr_put pb 1 s w2 S2 _ _ _ HN2.out.on.pt (by (try simp); omega) rfl).mono ?_
 rintro r0 w3 hD
 obtain ⟨rfl, S3, hN⟩ := HN2.out.step hD
 have HN3 := Lib.hid hN
 clear hD hN HN2
 go_wp2_with fail
 simp [bodyPost, results, Tryz.results22, go_sem]
 exact HN3.out.on.done (by rw [← HV.out]; simp)
set_option maxHeartbeats 3200000 in
theorem nx_23 (pb : Nat) (nn : Int) (s t : ByteArray) (a : List Nd) (ha : PartOk' pb 4 a) : Prints pb 22 (⟨23, nn, s, t⟩ :: a) (partT 4 a ++ [nmdW (btwW 23), ⟨3, s, 0⟩]) := by
 intro W S r ts vs hP hlen hv
 have hP : Pt pb W S (⟨23, nn, s, t⟩ :: (a ++ r)) ts := by simpa using hP
 obtain ⟨L, hL⟩ : ∃ L, ((a ++ r)).length = L := ⟨_, rfl⟩
 have HN0 := Lib.hid (Nx.start hP hL)
 have hpb := hP.lt
 have hfst := nd_first hP
 have k0 : W.cell? ⟨pb, 0, none⟩ = some (.slice (some ⟨S.b, S.o, none⟩) (L + 1) S.c) := by have := hP.blk.cell 0; rw [List.length_cons, hL] at this; exact this
 have f0 : W.frozen? ⟨pb, 0, none⟩ = false := hP.blk.frozen 0
 obtain ⟨c0, c1, c2, c3⟩ := hfst
 have hbp := hP.hb
 have hle := hP.le
 have hmx := hP.mx
 have g0 : (0 : Int) < ((L + 1 : Nat) : Int) := by omega
 rw [List.length_cons, hL] at hle
 have q := sl_rest S.b S.o L S.c
 have HV := Lib.hid hv
 try simp at hlen
 clear hP hv hL
 have HBT := Lib.hid (pr_between 23)
 go_enter Tryz.func22, Tryz.ntmps22
 go_wp2_with fail
 generalize hw : (W.setCell ⟨pb, 0, none⟩ (.slice (some ⟨S.b, nxo S.c S.o, none⟩) L (S.c - 1))).alloc (.cells #[.int .i64 23, .int .i64 nn, .string s, .string t] 29) = w0 at HN0 ⊢
 clear hw k0 f0 c0 c1 c2 c3 hbp hle hmx g0 q
 refine (ha w0 ⟨S.b, nxo S.c S.o, S.c - 1, S.v⟩ _ _ _ HN0.out.on.pt (by (try simp); omega) rfl).mono ?_
 rintro r0 w1 hD
 obtain ⟨rfl, S1, hN⟩ := HN0.out.step hD
 have HN1 := Lib.hid hN
 clear hD hN HN0
 have d1_op := HN1.out.op
 go_wp2_with fail
 refine (HBT.out w1).mono ?_
 rintro r0 w1' ⟨rfl, hww⟩
 obtain rfl : w1 = w1' := hww.symm
 go_wp2_with fail
 refine (pr_named pb (bsOf (btwW 23)) w1 S1 _ _ _ (btwW 23) rfl (by decide) HN1.out.on.pt (by (try simp); omega) rfl).mono ?_
 rintro r0 w2 hD
 obtain ⟨rfl, S2, hN⟩ := HN1.out.step hD
 have HN2 := Lib.hid hN
 clear hD hN HN1
 have d2_op := HN2.out.op
 have d2_str := HN2.out.str
 go_wp2_with fail
 refine (pr_put pb 3 s w2 S2 _ _ _ HN2.out.on.pt (by (try simp); omega) rfl).mono ?_
 rintro r0 w3 hD
 obtain ⟨rfl, S3, hN⟩ := HN2.out.step hD
 have HN3 := Lib.hid hN
 clear hD hN HN2
 go_wp2_with fail
 simp [bodyPost, results, Tryz.results22, go_sem]
 exact HN3.out.on.done (by rw [← HV.out]; simp)
set_option maxHeartbeats 3200000 in
theorem nx_22 (pb : Nat) (nn : Int) (s t : ByteArray) (a : List Nd) (ha : PartOk' pb 7 a) : Prints pb 22 (⟨22, nn, s, t⟩ :: a) (partT 7 a ++ [tSg [46], ⟨1, s, 0⟩]) := by
 intro W S r ts vs hP hlen hv
 have hP : Pt pb W S (⟨22, nn, s, t⟩ :: (a ++ r)) ts := by simpa using hP
 obtain ⟨L, hL⟩ : ∃ L, ((a ++ r)).length = L := ⟨_, rfl⟩
 have HN0 := Lib.hid (Nx.start hP hL)
 have hpb := hP.lt
 have hfst := nd_first hP
 have k0 : W.cell? ⟨pb, 0, none⟩ = some (.slice (some ⟨S.b, S.o, none⟩) (L + 1) S.c) := by have := hP.blk.cell 0; rw [List.length_cons, hL] at this; exact this
 have f0 : W.frozen? ⟨pb, 0, none⟩ = false := hP.blk.frozen 0
 obtain ⟨c0, c1, c2, c3⟩ := hfst
 have hbp := hP.hb
 have hle := hP.le
 have hmx := hP.mx
 have g0 : (0 : Int) < ((L + 1 : Nat) : Int) := by omega
 rw [List.length_cons, hL] at hle
 have q := sl_rest S.b S.o L S.c
 have HV := Lib.hid hv
 try simp at hlen
 clear hP hv hL
 go_enter Tryz.func22, Tryz.ntmps22
 go_wp2_with fail
 generalize hw : (W.setCell ⟨pb, 0, none⟩ (.slice (some ⟨S.b, nxo S.c S.o, none⟩) L (S.c - 1))).alloc (.cells #[.int .i64 22, .int .i64 nn, .string s, .string t] 29) = w0 at HN0 ⊢
 clear hw k0 f0 c0 c1 c2 c3 hbp hle hmx g0 q
 refine (ha w0 ⟨S.b, nxo S.c S.o, S.c - 1, S.v⟩ _ _ _ HN0.out.on.pt (by (try simp); omega) rfl).mono ?_
 rintro r0 w1 hD
 obtain ⟨rfl, S1, hN⟩ := HN0.out.step hD
 have HN1 := Lib.hid hN
 clear hD hN HN0
 go_wp2_with fail
 refine (pr_sign pb ⟨#[46]⟩ w1 S1 _ _ _ HN1.out.on.pt (by (try simp); omega) rfl).mono ?_
 rintro r0 w2 hD
 obtain ⟨rfl, S2, hN⟩ := HN1.out.step hD
 have HN2 := Lib.hid hN
 clear hD hN HN1
 have d2_str := HN2.out.str
 go_wp2_with fail
 refine (pr_put pb 1 s w2 S2 _ _ _ HN2.out.on.pt (by (try simp); omega) rfl).mono ?_
 rintro r0 w3 hD
 obtain ⟨rfl, S3, hN⟩ := HN2.out.step hD
 have HN3 := Lib.hid hN
 clear hD hN HN2
 go_wp2_with fail
 simp [bodyPost, results, Tryz.results22, go_sem]
 exact HN3.out.on.done (by rw [← HV.out]; simp [tSg, bsOf])
set_option maxHeartbeats 3200000 in
theorem nx_25 (pb : Nat) (nn : Int) (s t : ByteArray) (a : List Nd) (b : List Nd) (ha : PartOk' pb 7 a) (hb : PartOk' pb 0 b) : Prints pb 22 (⟨25, nn, s, t⟩ :: (a ++ b)) (partT 7 a ++ tSg [46] :: nmdW (btwW 25) :: tSg [40] :: (partT 0 b ++ [tSg [41]])) := by
 intro W S r ts vs hP hlen hv
 have hP : Pt pb W S (⟨25, nn, s, t⟩ :: (a ++ (b ++ r))) ts := by simpa using hP
 obtain ⟨L, hL⟩ : ∃ L, ((a ++ (b ++ r))).length = L := ⟨_, rfl⟩
 have HN0 := Lib.hid (Nx.start hP hL)
 have hpb := hP.lt
 have hfst := nd_first hP
 have k0 : W.cell? ⟨pb, 0, none⟩ = some (.slice (some ⟨S.b, S.o, none⟩) (L + 1) S.c) := by have := hP.blk.cell 0; rw [List.length_cons, hL] at this; exact this
 have f0 : W.frozen? ⟨pb, 0, none⟩ = false := hP.blk.frozen 0
 obtain ⟨c0, c1, c2, c3⟩ := hfst
 have hbp := hP.hb
 have hle := hP.le
 have hmx := hP.mx
 have g0 : (0 : Int) < ((L + 1 : Nat) : Int) := by omega
 rw [List.length_cons, hL] at hle
 have q := sl_rest S.b S.o L S.c
 have HV := Lib.hid hv
 try simp at hlen
 clear hP hv hL
 have HBT := Lib.hid (pr_between 25)
 go_enter Tryz.func22, Tryz.ntmps22
 go_wp2_with fail
 generalize hw : (W.setCell ⟨pb, 0, none⟩ (.slice (some ⟨S.b, nxo S.c S.o, none⟩) L (S.c - 1))).alloc (.cells #[.int .i64 25, .int .i64 nn, .string s, .string t] 29) = w0 at HN0 ⊢
 clear hw k0 f0 c0 c1 c2 c3 hbp hle hmx g0 q
 refine (ha w0 ⟨S.b, nxo S.c S.o, S.c - 1, S.v⟩ _ _ _ HN0.out.on.pt (by (try simp); omega) rfl).mono ?_
 rintro r0 w1 hD
 obtain ⟨rfl, S1, hN⟩ := HN0.out.step hD
 have HN1 := Lib.hid hN
 clear hD hN HN0
 go_wp2_with fail
 refine (pr_sign pb ⟨#[46]⟩ w1 S1 _ _ _ HN1.out.on.pt (by (try simp); omega) rfl).mono ?_
 rintro r0 w2 hD
 obtain ⟨rfl, S2, hN⟩ := HN1.out.step hD
 have HN2 := Lib.hid hN
 clear hD hN HN1
 have d2_op := HN2.out.op
 go_wp2_with fail
 refine (HBT.out w2).mono ?_
 rintro r0 w2' ⟨rfl, hww⟩
 obtain rfl : w2 = w2' := hww.symm
 go_wp2_with fail
 refine (pr_named pb (bsOf (btwW 25)) w2 S2 _ _ _ (btwW 25) rfl (by decide) HN2.out.on.pt (by (try simp); omega) rfl).mono ?_
 rintro r0 w3 hD
 obtain ⟨rfl, S3, hN⟩ := HN2.out.step hD
 have HN3 := Lib.hid hN
 clear hD hN HN2
 go_wp2_with fail
 refine (pr_sign pb ⟨#[40]⟩ w3 S3 _ _ _ HN3.out.on.pt (by (try simp); omega) rfl).mono ?_
 rintro r0 w4 hD
 obtain ⟨rfl, S4, hN⟩ := HN3.out.step hD
 have HN4 := Lib.hid hN
 clear hD hN HN3
 go_wp2_with fail
 refine (hb w4 S4 _ _ _ HN4.out.on.pt (by (try simp); omega) rfl).mono ?_
 rintro r0 w5 hD
 obtain ⟨rfl, S5, hN⟩ := HN4.out.step hD
 have HN5 := Lib.hid hN
 clear hD hN HN4
 go_wp2_with fail
 refine (pr_sign pb ⟨#[41]⟩ w5 S5 _ _ _ HN5.out.on.pt (by (try simp); omega) rfl).mono ?_
 rintro r0 w6 hD
 obtain ⟨rfl, S6, hN⟩ := HN5.out.step hD
 have HN6 := Lib.hid hN
 clear hD hN HN5
 go_wp2_with fail
 simp [bodyPost, results, Tryz.results22, go_sem]
 exact HN6.out.on.done (by rw [← HV.out]; simp [tSg, bsOf])
set_option maxHeartbeats 3200000 in
theorem nx_26 (pb : Nat) (nn : Int) (s t : ByteArray) (a : List Nd) (b : List Nd) (ha : PartOk' pb 7 a) (hb : PartOk' pb 0 b) : Prints pb 22 (⟨26, nn, s, t⟩ :: (a ++ b)) (partT 7 a ++ tSg [46] :: nmdW (btwW 26) :: tSg [40] :: (partT 0 b ++ [tSg [41]])) := by
 intro W S r ts vs hP hlen hv
 have hP : Pt pb W S (⟨26, nn, s, t⟩ :: (a ++ (b ++ r))) ts := by simpa using hP
 obtain ⟨L, hL⟩ : ∃ L, ((a ++ (b ++ r))).length = L := ⟨_, rfl⟩
 have HN0 := Lib.hid (Nx.start hP hL)
 have hpb := hP.lt
 have hfst := nd_first hP
 have k0 : W.cell? ⟨pb, 0, none⟩ = some (.slice (some ⟨S.b, S.o, none⟩) (L + 1) S.c) := by have := hP.blk.cell 0; rw [List.length_cons, hL] at this; exact this
 have f0 : W.frozen? ⟨pb, 0, none⟩ = false := hP.blk.frozen 0
 obtain ⟨c0, c1, c2, c3⟩ := hfst
 have hbp := hP.hb
 have hle := hP.le
 have hmx := hP.mx
 have g0 : (0 : Int) < ((L + 1 : Nat) : Int) := by omega
 rw [List.length_cons, hL] at hle
 have q := sl_rest S.b S.o L S.c
 have HV := Lib.hid hv
 try simp at hlen
 clear hP hv hL
 have HBT := Lib.hid (pr_between 26)
 go_enter Tryz.func22, Tryz.ntmps22
 go_wp2_with fail
 generalize hw : (W.setCell ⟨pb, 0, none⟩ (.slice (some ⟨S.b, nxo S.c S.o, none⟩) L (S.c - 1))).alloc (.cells #[.int .i64 26, .int .i64 nn, .string s, .string t] 29) = w0 at HN0 ⊢
 clear hw k0 f0 c0 c1 c2 c3 hbp hle hmx g0 q
 refine (ha w0 ⟨S.b, nxo S.c S.o, S.c - 1, S.v⟩ _ _ _ HN0.out.on.pt (by (try simp); omega) rfl).mono ?_
 rintro r0 w1 hD
 obtain ⟨rfl, S1, hN⟩ := HN0.out.step hD
 have HN1 := Lib.hid hN
 clear hD hN HN0
 go_wp2_with fail
 refine (pr_sign pb ⟨#[46]⟩ w1 S1 _ _ _ HN1.out.on.pt (by (try simp); omega) rfl).mono ?_
 rintro r0 w2 hD
 obtain ⟨rfl, S2, hN⟩ := HN1.out.step hD
 have HN2 := Lib.hid hN
 clear hD hN HN1
 have d2_op := HN2.out.op
 go_wp2_with fail
 refine (HBT.out w2).mono ?_
 rintro r0 w2' ⟨rfl, hww⟩
 obtain rfl : w2 = w2' := hww.symm
 go_wp2_with fail
 refine (pr_named pb (bsOf (btwW 26)) w2 S2 _ _ _ (btwW 26) rfl (by decide) HN2.out.on.pt (by (try simp); omega) rfl).mono ?_
 rintro r0 w3 hD
 obtain ⟨rfl, S3, hN⟩ := HN2.out.step hD
 have HN3 := Lib.hid hN
 clear hD hN HN2
 go_wp2_with fail
 refine (pr_sign pb ⟨#[40]⟩ w3 S3 _ _ _ HN3.out.on.pt (by (try simp); omega) rfl).mono ?_
 rintro r0 w4 hD
 obtain ⟨rfl, S4, hN⟩ := HN3.out.step hD
 have HN4 := Lib.hid hN
 clear hD hN HN3
 go_wp2_with fail
 refine (hb w4 S4 _ _ _ HN4.out.on.pt (by (try simp); omega) rfl).mono ?_
 rintro r0 w5 hD
 obtain ⟨rfl, S5, hN⟩ := HN4.out.step hD
 have HN5 := Lib.hid hN
 clear hD hN HN4
 go_wp2_with fail
 refine (pr_sign pb ⟨#[41]⟩ w5 S5 _ _ _ HN5.out.on.pt (by (try simp); omega) rfl).mono ?_
 rintro r0 w6 hD
 obtain ⟨rfl, S6, hN⟩ := HN5.out.step hD
 have HN6 := Lib.hid hN
 clear hD hN HN5
 go_wp2_with fail
 simp [bodyPost, results, Tryz.results22, go_sem]
 exact HN6.out.on.done (by rw [← HV.out]; simp [tSg, bsOf])
set_option maxHeartbeats 3200000 in
theorem nx_27 (pb : Nat) (nn : Int) (s t : ByteArray) (a : List Nd) (b : List Nd) (ha : PartOk' pb 7 a) (hb : PartOk' pb 0 b) : Prints pb 22 (⟨27, nn, s, t⟩ :: (a ++ b)) (partT 7 a ++ tSg [46] :: nmdW (btwW 27) :: tSg [40] :: (partT 0 b ++ [tSg [41]])) := by
 intro W S r ts vs hP hlen hv
 have hP : Pt pb W S (⟨27, nn, s, t⟩ :: (a ++ (b ++ r))) ts := by simpa using hP
 obtain ⟨L, hL⟩ : ∃ L, ((a ++ (b ++ r))).length = L := ⟨_, rfl⟩
 have HN0 := Lib.hid (Nx.start hP hL)
 have hpb := hP.lt
 have hfst := nd_first hP
 have k0 : W.cell? ⟨pb, 0, none⟩ = some (.slice (some ⟨S.b, S.o, none⟩) (L + 1) S.c) := by have := hP.blk.cell 0; rw [List.length_cons, hL] at this; exact this
 have f0 : W.frozen? ⟨pb, 0, none⟩ = false := hP.blk.frozen 0
 obtain ⟨c0, c1, c2, c3⟩ := hfst
 have hbp := hP.hb
 have hle := hP.le
 have hmx := hP.mx
 have g0 : (0 : Int) < ((L + 1 : Nat) : Int) := by omega
 rw [List.length_cons, hL] at hle
 have q := sl_rest S.b S.o L S.c
 have HV := Lib.hid hv
 try simp at hlen
 clear hP hv hL
 have HBT := Lib.hid (pr_between 27)
 go_enter Tryz.func22, Tryz.ntmps22
 go_wp2_with fail
 generalize hw : (W.setCell ⟨pb, 0, none⟩ (.slice (some ⟨S.b, nxo S.c S.o, none⟩) L (S.c - 1))).alloc (.cells #[.int .i64 27, .int .i64 nn, .string s, .string t] 29) = w0 at HN0 ⊢
 clear hw k0 f0 c0 c1 c2 c3 hbp hle hmx g0 q
 refine (ha w0 ⟨S.b, nxo S.c S.o, S.c - 1, S.v⟩ _ _ _ HN0.out.on.pt (by (try simp); omega) rfl).mono ?_
 rintro r0 w1 hD
 obtain ⟨rfl, S1, hN⟩ := HN0.out.step hD
 have HN1 := Lib.hid hN
 clear hD hN HN0
 go_wp2_with fail
 refine (pr_sign pb ⟨#[46]⟩ w1 S1 _ _ _ HN1.out.on.pt (by (try simp); omega) rfl).mono ?_
 rintro r0 w2 hD
 obtain ⟨rfl, S2, hN⟩ := HN1.out.step hD
 have HN2 := Lib.hid hN
 clear hD hN HN1
 have d2_op := HN2.out.op
 go_wp2_with fail
 refine (HBT.out w2).mono ?_
 rintro r0 w2' ⟨rfl, hww⟩
 obtain rfl : w2 = w2' := hww.symm
 go_wp2_with fail
 refine (pr_named pb (bsOf (btwW 27)) w2 S2 _ _ _ (btwW 27) rfl (by decide) HN2.out.on.pt (by (try simp); omega) rfl).mono ?_
 rintro r0 w3 hD
 obtain ⟨rfl, S3, hN⟩ := HN2.out.step hD
 have HN3 := Lib.hid hN
 clear hD hN HN2
 go_wp2_with fail
 refine (pr_sign pb ⟨#[40]⟩ w3 S3 _ _ _ HN3.out.on.pt (by (try simp); omega) rfl).mono ?_
 rintro r0 w4 hD
 obtain ⟨rfl, S4, hN⟩ := HN3.out.step hD
 have HN4 := Lib.hid hN
 clear hD hN HN3
 go_wp2_with fail
 refine (hb w4 S4 _ _ _ HN4.out.on.pt (by (try simp); omega) rfl).mono ?_
 rintro r0 w5 hD
 obtain ⟨rfl, S5, hN⟩ := HN4.out.step hD
 have HN5 := Lib.hid hN
 clear hD hN HN4
 go_wp2_with fail
 refine (pr_sign pb ⟨#[41]⟩ w5 S5 _ _ _ HN5.out.on.pt (by (try simp); omega) rfl).mono ?_
 rintro r0 w6 hD
 obtain ⟨rfl, S6, hN⟩ := HN5.out.step hD
 have HN6 := Lib.hid hN
 clear hD hN HN5
 go_wp2_with fail
 simp [bodyPost, results, Tryz.results22, go_sem]
 exact HN6.out.on.done (by rw [← HV.out]; simp [tSg, bsOf])
set_option maxHeartbeats 3200000 in
theorem nx_13 (pb : Nat) (nn : Int) (s t : ByteArray) (a : List Nd) (b : List Nd) (c : List Nd) (ha : PartOk' pb 0 a) (hb : PartOk' pb 0 b) (hc : PartOk' pb 0 c) : Prints pb 22 (⟨13, nn, s, t⟩ :: (a ++ b ++ c)) (tNm wIf :: (partT 0 a ++ tNm wThen :: (partT 0 b ++ tNm wElse :: partT 0 c))) := by
 intro W S r ts vs hP hlen hv
 have hP : Pt pb W S (⟨13, nn, s, t⟩ :: (a ++ (b ++ (c ++ r)))) ts := by simpa using hP
 obtain ⟨L, hL⟩ : ∃ L, ((a ++ (b ++ (c ++ r)))).length = L := ⟨_, rfl⟩
 have HN0 := Lib.hid (Nx.start hP hL)
 have hpb := hP.lt
 have hfst := nd_first hP
 have k0 : W.cell? ⟨pb, 0, none⟩ = some (.slice (some ⟨S.b, S.o, none⟩) (L + 1) S.c) := by have := hP.blk.cell 0; rw [List.length_cons, hL] at this; exact this
 have f0 : W.frozen? ⟨pb, 0, none⟩ = false := hP.blk.frozen 0
 obtain ⟨c0, c1, c2, c3⟩ := hfst
 have hbp := hP.hb
 have hle := hP.le
 have hmx := hP.mx
 have g0 : (0 : Int) < ((L + 1 : Nat) : Int) := by omega
 rw [List.length_cons, hL] at hle
 have q := sl_rest S.b S.o L S.c
 have HV := Lib.hid hv
 try simp at hlen
 clear hP hv hL
 go_enter Tryz.func22, Tryz.ntmps22
 go_wp2_with fail
 generalize hw : (W.setCell ⟨pb, 0, none⟩ (.slice (some ⟨S.b, nxo S.c S.o, none⟩) L (S.c - 1))).alloc (.cells #[.int .i64 13, .int .i64 nn, .string s, .string t] 29) = w0 at HN0 ⊢
 clear hw k0 f0 c0 c1 c2 c3 hbp hle hmx g0 q
 refine (pr_put pb 1 ⟨#[105, 102]⟩ w0 ⟨S.b, nxo S.c S.o, S.c - 1, S.v⟩ _ _ _ HN0.out.on.pt (by (try simp); omega) rfl).mono ?_
 rintro r0 w1 hD
 obtain ⟨rfl, S1, hN⟩ := HN0.out.step hD
 have HN1 := Lib.hid hN
 clear hD hN HN0
 go_wp2_with fail
 refine (ha w1 S1 _ _ _ HN1.out.on.pt (by (try simp); omega) rfl).mono ?_
 rintro r0 w2 hD
 obtain ⟨rfl, S2, hN⟩ := HN1.out.step hD
 have HN2 := Lib.hid hN
 clear hD hN HN1
 go_wp2_with fail
 refine (pr_put pb 1 ⟨#[116, 104, 101, 110]⟩ w2 S2 _ _ _ HN2.out.on.pt (by (try simp); omega) rfl).mono ?_
 rintro r0 w3 hD
 obtain ⟨rfl, S3, hN⟩ := HN2.out.step hD
 have HN3 := Lib.hid hN
 clear hD hN HN2
 go_wp2_with fail
 refine (hb w3 S3 _ _ _ HN3.out.on.pt (by (try simp); omega) rfl).mono ?_
 rintro r0 w4 hD
 obtain ⟨rfl, S4, hN⟩ := HN3.out.step hD
 have HN4 := Lib.hid hN
 clear hD hN HN3
 go_wp2_with fail
 refine (pr_put pb 1 ⟨#[101, 108, 115, 101]⟩ w4 S4 _ _ _ HN4.out.on.pt (by (try simp); omega) rfl).mono ?_
 rintro r0 w5 hD
 obtain ⟨rfl, S5, hN⟩ := HN4.out.step hD
 have HN5 := Lib.hid hN
 clear hD hN HN4
 go_wp2_with fail
 refine (hc w5 S5 _ _ _ HN5.out.on.pt (by (try simp); omega) rfl).mono ?_
 rintro r0 w6 hD
 obtain ⟨rfl, S6, hN⟩ := HN5.out.step hD
 have HN6 := Lib.hid hN
 clear hD hN HN5
 go_wp2_with fail
 simp [bodyPost, results, Tryz.results22, go_sem]
 exact HN6.out.on.done (by rw [← HV.out]; simp [tNm, bsOf, wIf, wThen, wElse])
set_option maxHeartbeats 3200000 in
theorem nx_10 (pb : Nat) (nn : Int) (s t : ByteArray) (a : List Nd) (us : List Tk) (ha : Prints pb 45 a us) : Prints pb 22 (⟨10, nn, s, t⟩ :: a) (us) := by
 intro W S r ts vs hP hlen hv
 have hP : Pt pb W S (⟨10, nn, s, t⟩ :: (a ++ r)) ts := by simpa using hP
 obtain ⟨L, hL⟩ : ∃ L, ((a ++ r)).length = L := ⟨_, rfl⟩
 have HN0 := Lib.hid (Nx.start hP hL)
 have hpb := hP.lt
 have hfst := nd_first hP
 have k0 : W.cell? ⟨pb, 0, none⟩ = some (.slice (some ⟨S.b, S.o, none⟩) (L + 1) S.c) := by have := hP.blk.cell 0; rw [List.length_cons, hL] at this; exact this
 have f0 : W.frozen? ⟨pb, 0, none⟩ = false := hP.blk.frozen 0
 obtain ⟨c0, c1, c2, c3⟩ := hfst
 have hbp := hP.hb
 have hle := hP.le
 have hmx := hP.mx
 have g0 : (0 : Int) < ((L + 1 : Nat) : Int) := by omega
 rw [List.length_cons, hL] at hle
 have q := sl_rest S.b S.o L S.c
 have HV := Lib.hid hv
 try simp at hlen
 clear hP hv hL
 go_enter Tryz.func22, Tryz.ntmps22
 go_wp2_with fail
 generalize hw : (W.setCell ⟨pb, 0, none⟩ (.slice (some ⟨S.b, nxo S.c S.o, none⟩) L (S.c - 1))).alloc (.cells #[.int .i64 10, .int .i64 nn, .string s, .string t] 29) = w0 at HN0 ⊢
 clear hw k0 f0 c0 c1 c2 c3 hbp hle hmx g0 q
 refine (ha w0 ⟨S.b, nxo S.c S.o, S.c - 1, S.v⟩ _ _ _ HN0.out.on.pt (by (try simp); omega) rfl).mono ?_
 rintro r0 w1 hD
 obtain ⟨rfl, S1, hN⟩ := HN0.out.step hD
 have HN1 := Lib.hid hN
 clear hD hN HN0
 go_wp2_with fail
 simp [bodyPost, results, Tryz.results22, go_sem]
 exact HN1.out.on.done HV.out
def AtomOk (pb : Nat) (n : Nd) (x : List Nd) (us : List Tk) : Prop :=
 ∀ (W : World) (S : Qs) (r : List Nd) (ts vs : List Tk), Pt pb W S (x ++ r) ts → ts.length + us.length ≤ 1000000 → ts ++ us = vs → Calls Tryz.prog 46 #[.pointer (some ⟨pb, 0, none⟩), .agg #[.int .i64 n.op, .int .i64 n.n, .string n.s, .string n.t]] W (Done pb W S r vs)
set_option maxHeartbeats 3200000 in
theorem nx_1 (pb : Nat) (nn : Int) (s t : ByteArray) (a : List Nd) (us : List Tk) (ha : AtomOk pb ⟨1, nn, s, t⟩ a us) : Prints pb 22 (⟨1, nn, s, t⟩ :: a) (us) := by
 intro W S r ts vs hP hlen hv
 have hP : Pt pb W S (⟨1, nn, s, t⟩ :: (a ++ r)) ts := by simpa using hP
 obtain ⟨L, hL⟩ : ∃ L, ((a ++ r)).length = L := ⟨_, rfl⟩
 have HN0 := Lib.hid (Nx.start hP hL)
 have hpb := hP.lt
 have hfst := nd_first hP
 have k0 : W.cell? ⟨pb, 0, none⟩ = some (.slice (some ⟨S.b, S.o, none⟩) (L + 1) S.c) := by have := hP.blk.cell 0; rw [List.length_cons, hL] at this; exact this
 have f0 : W.frozen? ⟨pb, 0, none⟩ = false := hP.blk.frozen 0
 obtain ⟨c0, c1, c2, c3⟩ := hfst
 have hbp := hP.hb
 have hle := hP.le
 have hmx := hP.mx
 have g0 : (0 : Int) < ((L + 1 : Nat) : Int) := by omega
 rw [List.length_cons, hL] at hle
 have q := sl_rest S.b S.o L S.c
 have HV := Lib.hid hv
 try simp at hlen
 clear hP hv hL
 go_enter Tryz.func22, Tryz.ntmps22
 go_wp2_with fail
 generalize hw : (W.setCell ⟨pb, 0, none⟩ (.slice (some ⟨S.b, nxo S.c S.o, none⟩) L (S.c - 1))).alloc (.cells #[.int .i64 1, .int .i64 nn, .string s, .string t] 29) = w0 at HN0 ⊢
 clear hw k0 f0 c0 c1 c2 c3 hbp hle hmx g0 q
 have d0_op := HN0.out.op
 have d0_n := HN0.out.num
 have d0_str := HN0.out.str
 have d0_txt := HN0.out.txt
 refine (ha w0 ⟨S.b, nxo S.c S.o, S.c - 1, S.v⟩ _ _ _ HN0.out.on.pt (by (try simp); omega) rfl).mono ?_
 rintro r0 w1 hD
 obtain ⟨rfl, S1, hN⟩ := HN0.out.step hD
 have HN1 := Lib.hid hN
 clear hD hN HN0
 go_wp2_with fail
 simp [bodyPost, results, Tryz.results22, go_sem]
 exact HN1.out.on.done HV.out
set_option maxHeartbeats 3200000 in
theorem nx_2 (pb : Nat) (nn : Int) (s t : ByteArray) (a : List Nd) (us : List Tk) (ha : AtomOk pb ⟨2, nn, s, t⟩ a us) : Prints pb 22 (⟨2, nn, s, t⟩ :: a) (us) := by
 intro W S r ts vs hP hlen hv
 have hP : Pt pb W S (⟨2, nn, s, t⟩ :: (a ++ r)) ts := by simpa using hP
 obtain ⟨L, hL⟩ : ∃ L, ((a ++ r)).length = L := ⟨_, rfl⟩
 have HN0 := Lib.hid (Nx.start hP hL)
 have hpb := hP.lt
 have hfst := nd_first hP
 have k0 : W.cell? ⟨pb, 0, none⟩ = some (.slice (some ⟨S.b, S.o, none⟩) (L + 1) S.c) := by have := hP.blk.cell 0; rw [List.length_cons, hL] at this; exact this
 have f0 : W.frozen? ⟨pb, 0, none⟩ = false := hP.blk.frozen 0
 obtain ⟨c0, c1, c2, c3⟩ := hfst
 have hbp := hP.hb
 have hle := hP.le
 have hmx := hP.mx
 have g0 : (0 : Int) < ((L + 1 : Nat) : Int) := by omega
 rw [List.length_cons, hL] at hle
 have q := sl_rest S.b S.o L S.c
 have HV := Lib.hid hv
 try simp at hlen
 clear hP hv hL
 go_enter Tryz.func22, Tryz.ntmps22
 go_wp2_with fail
 generalize hw : (W.setCell ⟨pb, 0, none⟩ (.slice (some ⟨S.b, nxo S.c S.o, none⟩) L (S.c - 1))).alloc (.cells #[.int .i64 2, .int .i64 nn, .string s, .string t] 29) = w0 at HN0 ⊢
 clear hw k0 f0 c0 c1 c2 c3 hbp hle hmx g0 q
 have d0_op := HN0.out.op
 have d0_n := HN0.out.num
 have d0_str := HN0.out.str
 have d0_txt := HN0.out.txt
 refine (ha w0 ⟨S.b, nxo S.c S.o, S.c - 1, S.v⟩ _ _ _ HN0.out.on.pt (by (try simp); omega) rfl).mono ?_
 rintro r0 w1 hD
 obtain ⟨rfl, S1, hN⟩ := HN0.out.step hD
 have HN1 := Lib.hid hN
 clear hD hN HN0
 go_wp2_with fail
 simp [bodyPost, results, Tryz.results22, go_sem]
 exact HN1.out.on.done HV.out
set_option maxHeartbeats 3200000 in
theorem nx_3 (pb : Nat) (nn : Int) (s t : ByteArray) (a : List Nd) (us : List Tk) (ha : AtomOk pb ⟨3, nn, s, t⟩ a us) : Prints pb 22 (⟨3, nn, s, t⟩ :: a) (us) := by
 intro W S r ts vs hP hlen hv
 have hP : Pt pb W S (⟨3, nn, s, t⟩ :: (a ++ r)) ts := by simpa using hP
 obtain ⟨L, hL⟩ : ∃ L, ((a ++ r)).length = L := ⟨_, rfl⟩
 have HN0 := Lib.hid (Nx.start hP hL)
 have hpb := hP.lt
 have hfst := nd_first hP
 have k0 : W.cell? ⟨pb, 0, none⟩ = some (.slice (some ⟨S.b, S.o, none⟩) (L + 1) S.c) := by have := hP.blk.cell 0; rw [List.length_cons, hL] at this; exact this
 have f0 : W.frozen? ⟨pb, 0, none⟩ = false := hP.blk.frozen 0
 obtain ⟨c0, c1, c2, c3⟩ := hfst
 have hbp := hP.hb
 have hle := hP.le
 have hmx := hP.mx
 have g0 : (0 : Int) < ((L + 1 : Nat) : Int) := by omega
 rw [List.length_cons, hL] at hle
 have q := sl_rest S.b S.o L S.c
 have HV := Lib.hid hv
 try simp at hlen
 clear hP hv hL
 go_enter Tryz.func22, Tryz.ntmps22
 go_wp2_with fail
 generalize hw : (W.setCell ⟨pb, 0, none⟩ (.slice (some ⟨S.b, nxo S.c S.o, none⟩) L (S.c - 1))).alloc (.cells #[.int .i64 3, .int .i64 nn, .string s, .string t] 29) = w0 at HN0 ⊢
 clear hw k0 f0 c0 c1 c2 c3 hbp hle hmx g0 q
 have d0_op := HN0.out.op
 have d0_n := HN0.out.num
 have d0_str := HN0.out.str
 have d0_txt := HN0.out.txt
 refine (ha w0 ⟨S.b, nxo S.c S.o, S.c - 1, S.v⟩ _ _ _ HN0.out.on.pt (by (try simp); omega) rfl).mono ?_
 rintro r0 w1 hD
 obtain ⟨rfl, S1, hN⟩ := HN0.out.step hD
 have HN1 := Lib.hid hN
 clear hD hN HN0
 go_wp2_with fail
 simp [bodyPost, results, Tryz.results22, go_sem]
 exact HN1.out.on.done HV.out
set_option maxHeartbeats 3200000 in
theorem nx_4 (pb : Nat) (nn : Int) (s t : ByteArray) (a : List Nd) (us : List Tk) (ha : AtomOk pb ⟨4, nn, s, t⟩ a us) : Prints pb 22 (⟨4, nn, s, t⟩ :: a) (us) := by
 intro W S r ts vs hP hlen hv
 have hP : Pt pb W S (⟨4, nn, s, t⟩ :: (a ++ r)) ts := by simpa using hP
 obtain ⟨L, hL⟩ : ∃ L, ((a ++ r)).length = L := ⟨_, rfl⟩
 have HN0 := Lib.hid (Nx.start hP hL)
 have hpb := hP.lt
 have hfst := nd_first hP
 have k0 : W.cell? ⟨pb, 0, none⟩ = some (.slice (some ⟨S.b, S.o, none⟩) (L + 1) S.c) := by have := hP.blk.cell 0; rw [List.length_cons, hL] at this; exact this
 have f0 : W.frozen? ⟨pb, 0, none⟩ = false := hP.blk.frozen 0
 obtain ⟨c0, c1, c2, c3⟩ := hfst
 have hbp := hP.hb
 have hle := hP.le
 have hmx := hP.mx
 have g0 : (0 : Int) < ((L + 1 : Nat) : Int) := by omega
 rw [List.length_cons, hL] at hle
 have q := sl_rest S.b S.o L S.c
 have HV := Lib.hid hv
 try simp at hlen
 clear hP hv hL
 go_enter Tryz.func22, Tryz.ntmps22
 go_wp2_with fail
 generalize hw : (W.setCell ⟨pb, 0, none⟩ (.slice (some ⟨S.b, nxo S.c S.o, none⟩) L (S.c - 1))).alloc (.cells #[.int .i64 4, .int .i64 nn, .string s, .string t] 29) = w0 at HN0 ⊢
 clear hw k0 f0 c0 c1 c2 c3 hbp hle hmx g0 q
 have d0_op := HN0.out.op
 have d0_n := HN0.out.num
 have d0_str := HN0.out.str
 have d0_txt := HN0.out.txt
 refine (ha w0 ⟨S.b, nxo S.c S.o, S.c - 1, S.v⟩ _ _ _ HN0.out.on.pt (by (try simp); omega) rfl).mono ?_
 rintro r0 w1 hD
 obtain ⟨rfl, S1, hN⟩ := HN0.out.step hD
 have HN1 := Lib.hid hN
 clear hD hN HN0
 go_wp2_with fail
 simp [bodyPost, results, Tryz.results22, go_sem]
 exact HN1.out.on.done HV.out
set_option maxHeartbeats 3200000 in
theorem nx_5 (pb : Nat) (nn : Int) (s t : ByteArray) (a : List Nd) (us : List Tk) (ha : AtomOk pb ⟨5, nn, s, t⟩ a us) : Prints pb 22 (⟨5, nn, s, t⟩ :: a) (us) := by
 intro W S r ts vs hP hlen hv
 have hP : Pt pb W S (⟨5, nn, s, t⟩ :: (a ++ r)) ts := by simpa using hP
 obtain ⟨L, hL⟩ : ∃ L, ((a ++ r)).length = L := ⟨_, rfl⟩
 have HN0 := Lib.hid (Nx.start hP hL)
 have hpb := hP.lt
 have hfst := nd_first hP
 have k0 : W.cell? ⟨pb, 0, none⟩ = some (.slice (some ⟨S.b, S.o, none⟩) (L + 1) S.c) := by have := hP.blk.cell 0; rw [List.length_cons, hL] at this; exact this
 have f0 : W.frozen? ⟨pb, 0, none⟩ = false := hP.blk.frozen 0
 obtain ⟨c0, c1, c2, c3⟩ := hfst
 have hbp := hP.hb
 have hle := hP.le
 have hmx := hP.mx
 have g0 : (0 : Int) < ((L + 1 : Nat) : Int) := by omega
 rw [List.length_cons, hL] at hle
 have q := sl_rest S.b S.o L S.c
 have HV := Lib.hid hv
 try simp at hlen
 clear hP hv hL
 go_enter Tryz.func22, Tryz.ntmps22
 go_wp2_with fail
 generalize hw : (W.setCell ⟨pb, 0, none⟩ (.slice (some ⟨S.b, nxo S.c S.o, none⟩) L (S.c - 1))).alloc (.cells #[.int .i64 5, .int .i64 nn, .string s, .string t] 29) = w0 at HN0 ⊢
 clear hw k0 f0 c0 c1 c2 c3 hbp hle hmx g0 q
 have d0_op := HN0.out.op
 have d0_n := HN0.out.num
 have d0_str := HN0.out.str
 have d0_txt := HN0.out.txt
 refine (ha w0 ⟨S.b, nxo S.c S.o, S.c - 1, S.v⟩ _ _ _ HN0.out.on.pt (by (try simp); omega) rfl).mono ?_
 rintro r0 w1 hD
 obtain ⟨rfl, S1, hN⟩ := HN0.out.step hD
 have HN1 := Lib.hid hN
 clear hD hN HN0
 go_wp2_with fail
 simp [bodyPost, results, Tryz.results22, go_sem]
 exact HN1.out.on.done HV.out
set_option maxHeartbeats 3200000 in
theorem nx_6 (pb : Nat) (nn : Int) (s t : ByteArray) (a : List Nd) (us : List Tk) (ha : AtomOk pb ⟨6, nn, s, t⟩ a us) : Prints pb 22 (⟨6, nn, s, t⟩ :: a) (us) := by
 intro W S r ts vs hP hlen hv
 have hP : Pt pb W S (⟨6, nn, s, t⟩ :: (a ++ r)) ts := by simpa using hP
 obtain ⟨L, hL⟩ : ∃ L, ((a ++ r)).length = L := ⟨_, rfl⟩
 have HN0 := Lib.hid (Nx.start hP hL)
 have hpb := hP.lt
 have hfst := nd_first hP
 have k0 : W.cell? ⟨pb, 0, none⟩ = some (.slice (some ⟨S.b, S.o, none⟩) (L + 1) S.c) := by have := hP.blk.cell 0; rw [List.length_cons, hL] at this; exact this
 have f0 : W.frozen? ⟨pb, 0, none⟩ = false := hP.blk.frozen 0
 obtain ⟨c0, c1, c2, c3⟩ := hfst
 have hbp := hP.hb
 have hle := hP.le
 have hmx := hP.mx
 have g0 : (0 : Int) < ((L + 1 : Nat) : Int) := by omega
 rw [List.length_cons, hL] at hle
 have q := sl_rest S.b S.o L S.c
 have HV := Lib.hid hv
 try simp at hlen
 clear hP hv hL
 go_enter Tryz.func22, Tryz.ntmps22
 go_wp2_with fail
 generalize hw : (W.setCell ⟨pb, 0, none⟩ (.slice (some ⟨S.b, nxo S.c S.o, none⟩) L (S.c - 1))).alloc (.cells #[.int .i64 6, .int .i64 nn, .string s, .string t] 29) = w0 at HN0 ⊢
 clear hw k0 f0 c0 c1 c2 c3 hbp hle hmx g0 q
 have d0_op := HN0.out.op
 have d0_n := HN0.out.num
 have d0_str := HN0.out.str
 have d0_txt := HN0.out.txt
 refine (ha w0 ⟨S.b, nxo S.c S.o, S.c - 1, S.v⟩ _ _ _ HN0.out.on.pt (by (try simp); omega) rfl).mono ?_
 rintro r0 w1 hD
 obtain ⟨rfl, S1, hN⟩ := HN0.out.step hD
 have HN1 := Lib.hid hN
 clear hD hN HN0
 go_wp2_with fail
 simp [bodyPost, results, Tryz.results22, go_sem]
 exact HN1.out.on.done HV.out
set_option maxHeartbeats 3200000 in
theorem nx_8 (pb : Nat) (nn : Int) (s t : ByteArray) (a : List Nd) (us : List Tk) (ha : AtomOk pb ⟨8, nn, s, t⟩ a us) : Prints pb 22 (⟨8, nn, s, t⟩ :: a) (us) := by
 intro W S r ts vs hP hlen hv
 have hP : Pt pb W S (⟨8, nn, s, t⟩ :: (a ++ r)) ts := by simpa using hP
 obtain ⟨L, hL⟩ : ∃ L, ((a ++ r)).length = L := ⟨_, rfl⟩
 have HN0 := Lib.hid (Nx.start hP hL)
 have hpb := hP.lt
 have hfst := nd_first hP
 have k0 : W.cell? ⟨pb, 0, none⟩ = some (.slice (some ⟨S.b, S.o, none⟩) (L + 1) S.c) := by have := hP.blk.cell 0; rw [List.length_cons, hL] at this; exact this
 have f0 : W.frozen? ⟨pb, 0, none⟩ = false := hP.blk.frozen 0
 obtain ⟨c0, c1, c2, c3⟩ := hfst
 have hbp := hP.hb
 have hle := hP.le
 have hmx := hP.mx
 have g0 : (0 : Int) < ((L + 1 : Nat) : Int) := by omega
 rw [List.length_cons, hL] at hle
 have q := sl_rest S.b S.o L S.c
 have HV := Lib.hid hv
 try simp at hlen
 clear hP hv hL
 go_enter Tryz.func22, Tryz.ntmps22
 go_wp2_with fail
 generalize hw : (W.setCell ⟨pb, 0, none⟩ (.slice (some ⟨S.b, nxo S.c S.o, none⟩) L (S.c - 1))).alloc (.cells #[.int .i64 8, .int .i64 nn, .string s, .string t] 29) = w0 at HN0 ⊢
 clear hw k0 f0 c0 c1 c2 c3 hbp hle hmx g0 q
 have d0_op := HN0.out.op
 have d0_n := HN0.out.num
 have d0_str := HN0.out.str
 have d0_txt := HN0.out.txt
 refine (ha w0 ⟨S.b, nxo S.c S.o, S.c - 1, S.v⟩ _ _ _ HN0.out.on.pt (by (try simp); omega) rfl).mono ?_
 rintro r0 w1 hD
 obtain ⟨rfl, S1, hN⟩ := HN0.out.step hD
 have HN1 := Lib.hid hN
 clear hD hN HN0
 go_wp2_with fail
 simp [bodyPost, results, Tryz.results22, go_sem]
 exact HN1.out.on.done HV.out
end Go.Proofs.YtbggbcnfkcadjaaGreatDoor
