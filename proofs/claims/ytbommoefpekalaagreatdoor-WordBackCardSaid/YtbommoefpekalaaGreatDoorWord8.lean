/-
  THE WALKS: word.Read: for any line.
-/
import Derived.Test.YtbommoefpekalaaGreatDoorWord6
import Derived.Test.YtbommoefpekalaaGreatDoorWord7
import Derived.Defers
namespace Go.Proofs.YtbommoefpekalaaGreatDoor
open Go.RowKit

theorem tok_info : (Tryz.prog.info? 28).map (fun i => (i.zero, i.size, i.bytes)) = some (some (.agg #[.int .i64 0, .string ⟨#[]⟩, .int .i64 0]), 3, 32) := by kernel_rfl
/-- Words, a place, an error that a call hands back. -/
def ToksBack (w : World) (r : Ending) (w' : World) (q : List Tk × Nat × Int) : Prop :=
  ∃ A c, r = .returned (.tuple #[.slice A q.1.length c, .int .i64 q.2.1, errV q.2.2]) ∧ q.1.length ≤ c ∧ c ≤ 9223372036854775807 ∧ TkSl w' w'.heap.size A q.1 ∧ Below w.heap.size w w'
theorem ToksBack.none {w w' : World} {i : Nat} {k : Int} (h : Below w.heap.size w w') : ToksBack w (.returned (.tuple #[.slice none 0 0, .int .i64 i, errV k])) w' ([], i, k) := ⟨Option.none, 0, rfl, Nat.le_refl _, by omega, SlG.nil _ _ _, h⟩

set_option maxHeartbeats 1600000 in
theorem word_Read_big (s : ByteArray) (w : World) (h : 900 < s.size) (hm : s.size ≤ 140737488351300) :
    Calls Tryz.prog 10 #[.string s] w fun r w' => ToksBack w r w' (readP s) := by
  have hv : readP s = ([], 0, 4) := by simp [readP, h]
  rw [hv]
  clear hv
  have hmf : ∀ (fn : Fn) (first cap : Array Value) (w : World), (Instr.makeFunc fn first cap).run Tryz.prog w = .ok (.func fn first cap) w := fun _ _ _ _ => rfl
  go_enter_defers Tryz.func10, Tryz.ntmps10
  go_wp2
  simp [bodyPostD, Leaves, results, Tryz.results10, go_sem]
  exact ToksBack.none (k := 4) (by (repeat (first | assumption | exact Below.refl _ _ | apply Below.drew | apply below_drewN | (refine Below.alloc ?_ (by first | exact Nat.le_refl _ | omega | (simp; done) | (simp; omega)) _))))

/-- The reader's loop: the three results, the reader at p, the words so far. -/
structure RInv (s : ByteArray) (w : World) (p : Nat) (toks : List Tk) (W : World) : Prop where
  ts : ∃ A c, Blk W w.heap.size 22 #[.slice A toks.length c] ∧ W.ownsRow (w.heap.size + 4) 28 3 (.slice A toks.length c) toks.length (flatG Tk.cells toks)
  at_ : Blk W (w.heap.size + 1) 3 #[.int .i64 0]
  er : Blk W (w.heap.size + 2) 24 #[.nilIface]
  rd : Blk W (w.heap.size + 3) 74 (rdS s p)
  on : Below w.heap.size w W
theorem own_only {B n m g : Nat} {e : TypeId} {v : Value} {xs : List Value} {w w' : World} (h : w.ownsRow B e m v n xs) (ho : Only w.heap.size g w w') (hg : g < B) : w'.ownsRow B e m v n xs :=
  h.kept (row := some g) ⟨ho.os, ho.tape, ho.output, ho.size, fun k hk hn => ho.block k hk (fun e => hn (by rw [e]))⟩ (by
    cases hv : v.ownBlock with
    | none => exact .inl rfl
    | some b => right; intro h2; injection h2 with h2; have := (h.lt b hv).1; omega)
theorem RInv.only {s : ByteArray} {w : World} {p q : Nat} {toks : List Tk} {W W' : World} (h : RInv s w p toks W) (hr : Blk W' (w.heap.size + 3) 74 (rdS s q)) (ho : Only W.heap.size (w.heap.size + 3) W W') : RInv s w q toks W' := by
  obtain ⟨A, c, h1, h2⟩ := h.ts
  have hl := h.rd.lt
  exact ⟨⟨A, c, h1.only ho (by omega) (by omega), own_only h2 ho (by omega)⟩, h.at_.only ho (by omega) (by omega), h.er.only ho (by omega) (by omega), hr, h.on.trans (ho.below (by omega) (by omega))⟩
theorem RInv.alloc {s : ByteArray} {w : World} {p : Nat} {toks : List Tk} {W : World} (h : RInv s w p toks W) (o : Obj) : RInv s w p toks (W.alloc o) := by
  obtain ⟨A, c, h1, h2⟩ := h.ts
  have hl := h.rd.lt
  exact ⟨⟨A, c, h1.alloc _, h2.alloc _⟩, h.at_.alloc _, h.er.alloc _, h.rd.alloc _, h.on.alloc (by omega) _⟩
theorem RInv.wrote {s : ByteArray} {w : World} {p : Nat} {toks toks' : List Tk} {W W' : World} (h : RInv s w p toks W) {v : Value} {A : Option Addr} {c : Nat} {b : Option Nat} (hb : ∀ g, b = some g → w.heap.size + 4 ≤ g) (hg : W.grownBy W' b)
    (hv : v = .slice A toks'.length c) (ho : W'.ownsRow (w.heap.size + 4) 28 3 v toks'.length (flatG Tk.cells toks')) : RInv s w p toks' (W'.setCell ⟨w.heap.size, 0, none⟩ v) := by
  subst hv
  obtain ⟨A0, c0, h1, h2⟩ := h.ts
  have hl := h.rd.lt
  have hblk : ∀ g t cs, g < w.heap.size + 4 → g < W.heap.size → Blk W g t cs → Blk W' g t cs := fun g t cs h1 h2 hB => (hg.block g h2 (fun e => by have := hb g e.symm; omega)).trans hB
  refine ⟨⟨A, c, (hblk _ _ _ (by omega) (by omega) h1).set 0 _, ?_⟩, (hblk _ _ _ (by omega) (by omega) h.at_).far (by simp) _, (hblk _ _ _ (by omega) (by omega) h.er).far (by simp) _, (hblk _ _ _ (by omega) (by omega) h.rd).far (by simp) _, ?_⟩
  · refine own_only (g := w.heap.size) ho ?_ (by omega)
    exact (Only.refl W'.heap.size w.heap.size W').setCell (p := ⟨w.heap.size, 0, none⟩) (.inl rfl) _
  · exact (h.on.grown hg (by omega) (fun g e => by have := hb g e; omega)).setCell (Nat.le_refl _) _

theorem own_set {B n m : Nat} {e : TypeId} {v : Value} {xs : List Value} {w : World} (h : w.ownsRow B e m v n xs) {p : Addr} (hp : p.block < B) (u : Value) : (w.setCell p u).ownsRow B e m v n xs :=
  own_only h ((Only.refl w.heap.size p.block w).setCell (.inl rfl) u) hp
theorem tw_stop (f : UInt8 → Bool) : ∀ (l : List UInt8) (x : UInt8), l[(l.takeWhile f).length]? = some x → f x = false
  | [], x, h => by simp at h
  | a :: l, x, h => by
    by_cases ha : f a = true
    · rw [List.takeWhile_cons_of_pos ha, List.length_cons, List.getElem?_cons_succ] at h
      exact tw_stop f l x h
    · rw [List.takeWhile_cons_of_neg ha] at h
      simp at h
      subst h; simpa using ha
theorem runL_stop {f : Int → Bool} {s : ByteArray} {i : Nat} (h : runL f s i < s.size) : f (s[runL f s i].toNat : Int) = false := by
  refine tw_stop (fun c => f (c.toNat : Int)) (s.toList.drop i) _ ?_
  rw [List.getElem?_drop]
  exact toList_get s _ h
theorem toks_end {W : World} {A : Option Addr} {c : Nat} {toks : List Tk} {B : Nat} (h : W.ownsRow B 28 3 (.slice A toks.length c) toks.length (flatG Tk.cells toks)) : toks.length ≤ c ∧ c ≤ 9223372036854775807 ∧ TkSl W W.heap.size A toks := by
  obtain ⟨_, A', c', hv, h1, h2, h3⟩ := own_formG tk_ok h
  injection hv with e1 e2 e3
  subst e1 e3
  exact ⟨h1, h2, h3⟩

set_option maxRecDepth 100000 in
set_option maxHeartbeats 6400000 in
theorem word_Read_go (s : ByteArray) (w : World) (h : ¬ 900 < s.size) :
    Calls Tryz.prog 10 #[.string s] w fun r w' => ToksBack w r w' (readP s) := by
  have hmf : ∀ (fn : Fn) (first cap : Array Value) (w : World), (Instr.makeFunc fn first cap).run Tryz.prog w = .ok (.func fn first cap) w := fun _ _ _ _ => rfl
  obtain ⟨i0, hi, hz0, hz1, hz2⟩ := info_parts tok_info
  obtain ⟨q, hq⟩ : ∃ q, readP s = q := ⟨_, rfl⟩
  rw [hq]
  rw [readP_R, if_neg h] at hq
  have HQ := Lib.hid hq
  clear hq
  go_enter_defers Tryz.func10, Tryz.ntmps10
  go_wp2_with fail
  go_loopg [] (s.size + 1) (fun gg wr => ∃ p : Nat, ∃ toks : List Tk, p ≤ s.size ∧ toks.length ≤ 300 ∧ s.size + 1 - p ≤ gg ∧ Hid (lineR (s.toList.drop p) p toks = q) ∧ Hid (RInv s w p toks wr))
  case atStart =>
    refine ⟨0, [], by omega, by simp, by omega, HQ.out, ?_⟩
    show RInv _ _ _ _ _
    have b0 : Blk (((w.alloc (.cells #[.slice none 0 0] 22)).alloc (.cells #[.int .i64 0] 3)).alloc (.cells #[.nilIface] 24)) w.heap.size 22 #[.slice none 0 0] := ((Blk.new w _ _).alloc _).alloc _
    have b1 := (Blk.new (w.alloc (.cells #[.slice none 0 0] 22)) 3 #[.int .i64 0]).alloc (.cells #[.nilIface] 24)
    have b2 := Blk.new ((w.alloc (.cells #[.slice none 0 0] 22)).alloc (.cells #[.int .i64 0] 3)) 24 #[.nilIface]
    have b3 := Blk.new (((w.alloc (.cells #[.slice none 0 0] 22)).alloc (.cells #[.int .i64 0] 3)).alloc (.cells #[.nilIface] 24)) 74 #[.string s, .int .i64 0]
    simp only [World.size_alloc] at b1 b2 b3
    exact ⟨⟨none, 0, b0.alloc _, World.ownsRow_nil _ _ _ _⟩, b1.alloc _, b2.alloc _, b3, by (repeat (first | assumption | exact Below.refl _ _ | apply Below.drew | apply below_drewN | (refine Below.alloc ?_ (by first | exact Nat.le_refl _ | omega | (simp; done) | (simp; omega)) _)))⟩
  case round =>
    obtain ⟨p, toks, hp, htl, hgg, HP, HI⟩ := hrel
    have hlt3 := HI.out.rd.lt
    go_wp2_with fail
    refine Calls.mono (word_while 30 (· == 32) pb_blank s p (w.heap.size + 3) wr (by omega) hp HI.out.rd) ?_
    rintro r w1 ⟨rfl, hb1, ho1⟩
    have HP2 : Hid (lineR (s.toList.drop (runL (· == 32) s p)) (runL (· == 32) s p) toks = q) := by
      show _ = _
      rw [← HP.out, lineR_blanks toks (s.toList.drop p) p, List.drop_drop]; rfl
    have hple := runL_le (· == 32) s hp
    have hpge := runL_ge (· == 32) s p
    have HI1 := Lib.hid (HI.out.only hb1 ho1)
    have HST : Hid (∀ hlt : runL (· == 32) s p < s.size, ((s[runL (· == 32) s p].toNat : Int) == 32) = false) := fun hlt => runL_stop hlt
    clear hb1 ho1
    generalize runL (· == 32) s p = p1 at HP2 hple hpge HI1 HST
    have c1 : w1.cell? ⟨w.heap.size + 3, 1, none⟩ = some (.int .i64 p1) := HI1.out.rd.cell 1
    clear HP HI
    by_cases he : p1 = s.size
    · have t1 : ((p1 : Int) == (s.size : Int)) = true := by rw [he]; simp
      have HR : Hid (q = (toks, 0, 0)) := by show _ = _; rw [← HP2.out, he, drop_noneW s s.size (Nat.le_refl _)]; rfl
      clear he HP2
      obtain ⟨A, c, hts, hown⟩ := HI1.out.ts
      have HOW := Lib.hid hown
      have ct : w1.cell? ⟨w.heap.size, 0, none⟩ = some (.slice A toks.length c) := hts.cell 0
      have ft := hts.frozen 0
      have fa := HI1.out.at_.frozen 0
      have fe := HI1.out.er.frozen 0
      have lt0 := hts.lt
      have lt1 := HI1.out.at_.lt
      have lt2 := HI1.out.er.lt
      have ca : w1.cell? ⟨w.heap.size + 1, 0, none⟩ = some (.int .i64 0) := HI1.out.at_.cell 0
      have ce : w1.cell? ⟨w.heap.size + 2, 0, none⟩ = some .nilIface := HI1.out.er.cell 0
      clear hts hown
      go_wp2_with fail
      refine leaves_cons (f := 28) (args := #[.pointer (some ⟨w.heap.size, 0, none⟩), .pointer (some ⟨w.heap.size + 1, 0, none⟩), .pointer (some ⟨w.heap.size + 2, 0, none⟩)]) (by simp) (by simp [go_sem]) ?_
      refine (read_idle ⟨w.heap.size, 0, none⟩ ⟨w.heap.size + 1, 0, none⟩ ⟨w.heap.size + 2, 0, none⟩ _).mono ?_
      rintro e' u' w'' ⟨rfl, rfl, rfl⟩
      simp [Leaves, settle, results, Tryz.results10, go_sem, ct, ca, ce]
      rw [HR.out]
      have hoe := own_set (own_set (own_set HOW.out (p := ⟨w.heap.size, 0, none⟩) (by simp) (.slice A toks.length c)) (p := ⟨w.heap.size + 1, 0, none⟩) (by simp) (.int .i64 0)) (p := ⟨w.heap.size + 1 + 1, 0, none⟩) (by simp) .nilIface
      obtain ⟨q1, q2, q3⟩ := toks_end hoe
      exact ⟨A, c, rfl, q1, q2, q3, ((HI1.out.on.setCell (p := ⟨w.heap.size, 0, none⟩) (Nat.le_refl _) _).setCell (p := ⟨w.heap.size + 1, 0, none⟩) (Nat.le_succ _) _).setCell (p := ⟨w.heap.size + 1 + 1, 0, none⟩) (by simp; omega) _⟩
    · have hlt : p1 < s.size := by omega
      have t1 : ((p1 : Int) == (s.size : Int)) = false := by simp; omega
      have hc32 : s[p1] ≠ 32 := fun h32 => by
        have := HST.out hlt
        rw [h32] at this
        exact absurd this (by decide)
      have hsd := toList_drop s p1 hlt
      have HWW := Lib.hid (word_word s p1 (w.heap.size + 3) w1 (by omega) hlt HI1.out.rd)
      cases hw : wordP (s.toList.drop p1) with
      | bad k =>
        rw [hw] at HWW
        have HR : Hid (q = ([], p1, k)) := by
          show _ = _
          rw [← HP2.out, hsd]
          rw [hsd] at hw
          exact lineR_bad hc32 hw _ _
        have HK0 : ¬ k = 0 := fun e => wordP_ne0 (e ▸ hw)
        clear he HP2 hc32 hsd hw
        go_wp2_with fail
        refine Calls.mono HWW.out ?_
        rintro r w2 ⟨rfl, ho2⟩
        go_wp2_with fail
        refine leaves_cons (f := 28) (args := #[.pointer (some ⟨w.heap.size, 0, none⟩), .pointer (some ⟨w.heap.size + 1, 0, none⟩), .pointer (some ⟨w.heap.size + 2, 0, none⟩)]) (by simp) (by simp [go_sem]) ?_
        obtain ⟨A, c, hts, _⟩ := HI1.out.ts
        have hl1 := HI1.out.rd.lt
        refine (read_catch w.heap.size _ _ _ k p1 [] _ (hts.only ho2 (by omega) (by omega)) (HI1.out.at_.only ho2 (by omega) (by omega)) (HI1.out.er.only ho2 (by omega) (by omega))).mono ?_
        rintro e' u' w'' ⟨rfl, rfl, hc0, hc1, hc2, hbw⟩
        simp [Leaves, settle, results, Tryz.results10, go_sem, hc0, hc1, hc2]
        rw [HR.out]
        have := ToksBack.none (w := w) (i := p1) (k := k) ((HI1.out.on.trans (ho2.below (show w.heap.size ≤ w1.heap.size by omega) (by omega))).trans hbw)
        rwa [errV_pos HK0] at this
      | ok kind t n =>
        rw [hw] at HWW
        have hn := wordP_n hw
        rw [List.length_drop, toList_len] at hn
        have HR : Hid (q = if toks.length = 300 then ([], p1, 4) else lineR (s.toList.drop (p1 + n)) (p1 + n) (toks ++ [⟨kind, bsOf t, p1⟩])) := by
          show _ = _
          rw [← HP2.out, hsd]
          rw [hsd] at hw
          rw [lineR_ok hc32 hw, ← hsd, List.drop_drop]
        clear he HP2 hc32 hsd hw
        go_wp2_with fail
        refine Calls.mono HWW.out ?_
        rintro r w2 ⟨rfl, hb2, ho2⟩
        have HI2 := Lib.hid (HI1.out.only hb2 ho2)
        clear hb2 ho2 HWW HI1 c1
        obtain ⟨A, c, hts, hown⟩ := HI2.out.ts
        have HOW := Lib.hid hown
        have HTS := Lib.hid hts
        have ct : w2.cell? ⟨w.heap.size, 0, none⟩ = some (.slice A toks.length c) := hts.cell 0
        have lt0 := hts.lt
        have lt3 := HI2.out.rd.lt
        clear hts hown
        by_cases h300 : toks.length = 300
        · have t3 : ((toks.length : Int) == 300) = true := by rw [h300]; rfl
          rw [if_pos h300] at HR
          clear h300
          go_wp2_with fail
          refine leaves_cons (f := 28) (args := #[.pointer (some ⟨w.heap.size, 0, none⟩), .pointer (some ⟨w.heap.size + 1, 0, none⟩), .pointer (some ⟨w.heap.size + 2, 0, none⟩)]) (by simp) (by simp [go_sem]) ?_
          refine (read_catch w.heap.size _ _ _ 4 p1 [] _ (HTS.out.alloc _) (HI2.out.at_.alloc _) (HI2.out.er.alloc _)).mono ?_
          rintro e' u' w'' ⟨rfl, rfl, hc0, hc1, hc2, hbw⟩
          simp [Leaves, settle, results, Tryz.results10, go_sem, hc0, hc1, hc2]
          rw [HR.out]
          exact ToksBack.none (w := w) (i := p1) (k := 4) ((HI2.out.alloc _).on.trans hbw)
        · have t3 : ((toks.length : Int) == 300) = false := by simp; omega
          rw [if_neg h300] at HR
          have htl2 : toks.length < 300 := by omega
          clear h300
          go_wp2_with (at_builtin; refine wpList_append_own _ rfl (.tmp 34) (.tmp 36) 22 rfl (w.heap.size + 4) 28 i0 _ 3 32 Tryz.underlying22 hi hz0 hz1 hz2 rfl (by omega) (.slice A toks.length c) toks.length (flatG Tk.cells toks) rfl ((HOW.out.alloc _).alloc _) ⟨w2.heap.size + 1, 0, none⟩ 1 1 (flatG Tk.cells [⟨kind, bsOf t, p1⟩]) rfl rfl (new_flatG _ _ (⟨kind, bsOf t, p1⟩ : Tk) _ rfl _ (by simp)) (flatG_cell tk_ok [⟨kind, bsOf t, p1⟩]) (by unfold maxLen; omega) (by omega) (by simp; omega) ?_)
          intro v1 w3 hown1 hgrow1 _
          rw [← flatG_append] at hown1
          have hl1 : toks.length + 1 = (toks ++ [(⟨kind, bsOf t, p1⟩ : Tk)]).length := by rw [List.length_append]; rfl
          rw [hl1] at hown1
          obtain ⟨_, A2, c2, hv2, _⟩ := own_formG tk_ok hown1
          have hgb : ∀ g, (Value.slice A toks.length c).ownBlock = some g → w.heap.size + 4 ≤ g := fun g hg => (HOW.out.lt g hg).1
          have HI3 := Lib.hid (((HI2.out.alloc (.cells #[.int .i64 kind, .string (bsOf t), .int .i64 p1] 28)).alloc (.cells #[.int .i64 kind, .string (bsOf t), .int .i64 p1] 28)).wrote hgb hgrow1 hv2 hown1)
          have hblk : Blk w3 w.heap.size 22 #[.slice A toks.length c] := (hgrow1.block w.heap.size (by simp; omega) (fun e => by have := hgb _ e.symm; omega)).trans ((HTS.out.alloc _).alloc _)
          have c3 : w3.cell? ⟨w.heap.size, 0, none⟩ = some (.slice A toks.length c) := hblk.cell 0
          have f3 := hblk.frozen 0
          have l3 := hblk.lt
          rw [hv2] at HI3 ⊢
          clear hown1 hgrow1 hblk hl1 hgb hv2 ct
          go_wp2_with fail
          have hI3 := HI3.out
          rw [List.length_append, List.length_singleton] at hI3
          go_roundg (s.size + 1 - (p1 + n))
          case measure => omega
          case rel => exact ⟨p1 + n, toks ++ [⟨kind, bsOf t, p1⟩], by omega, by rw [List.length_append, List.length_singleton]; omega, by omega, by show _ = _; rw [HR.out], Lib.hid hI3⟩

theorem word_ReadX (s : ByteArray) (w : World) (hs : s.size ≤ 140737488351300) :
    Calls Tryz.prog 10 #[.string s] w fun r w' => ToksBack w r w' (readP s) := by
  by_cases h : 900 < s.size
  · exact word_Read_big s w h hs
  · exact word_Read_go s w h
theorem word_Read (s : ByteArray) (w : World) (hs : s.size ≤ 140737488351232) :
    Calls Tryz.prog 10 #[.string s] w fun r w' => ToksBack w r w' (readP s) := word_ReadX s w (by omega)
end Go.Proofs.YtbommoefpekalaaGreatDoor
