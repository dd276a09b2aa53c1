/-
  THE WALK of the reference: TableOf.
  PLAIN LAW: the reference's diagram (a part of a table once known is not gone down again) is the program's.
  THE WALKS of the reference: sameTruth, cellsOf.
  THE WALK of the reference: DiagramOf.
-/
import Derived.Test.YtnhcjpmamgdeoaaDoorRfB
import Derived.Test.YtnhcjpmamgdeoaaDoorTrE
import Derived.Test.YtnhcjpmamgdeoaaDoorTrD2
import Derived.Test.YtnhcjpmamgdeoaaDoorTrK
import Derived.Maps.AppendAt
namespace Go.Proofs.YtnhcjpmamgdeoaaDoor
open Go.RowKit Go.Sort

theorem own_set {w : World} {base k n : Nat} {e : TypeId} {v : Value} {xs : List Value} (h : w.ownsRow base e k v n xs) {p : Addr} (hp : p.block < base) (u : Value) : (w.setCell p u).ownsRow base e k v n xs := by
  refine ⟨h.1, ?_⟩
  rcases h.2 with h0 | ⟨g, cap, cur, hv, hb, hg, r⟩
  · exact .inl h0
  · exact .inr ⟨g, cap, cur, hv, hb, (Below.heap_setCell w p u g (by omega)).trans hg, r⟩
def bosA (bs : List Bool) : Array Value := (bs.map Value.bool).toArray
theorem bosA_get (bs : List Bool) (k : Nat) : (bosA bs)[k]? = bs[k]?.map Value.bool := by simp [bosA]
theorem bosA_set (bs : List Bool) (k : Nat) (b : Bool) : (bosA bs).setIfInBounds k (.bool b) = bosA (bs.set k b) := by
  unfold bosA
  rw [List.setIfInBounds_toArray, List.map_set]
theorem made_bos (n : Nat) : madeCells (Value.bool false).cells (n * 1) = bosA (List.replicate n false) := by
  unfold bosA madeCells
  apply Array.ext'
  simp [Value.cells]
  apply List.ext_getElem
  · simp
  · intro i h1 h2
    simp [Nat.mod_one]
theorem make_bos (n : Nat) (hn : n ≤ 1000) (W : World) : (Instr.makeSlice 29 (.int .i64 (n : Int)) (.int .i64 (n : Int))).run Tryd.prog W = .ok (.slice (some ⟨W.heap.size, 0, none⟩) n n) (W.alloc (.cells (bosA (List.replicate n false)) 4)) := by
  obtain ⟨i0, hi, hz0, hz1, hz2⟩ := info_parts bo_info
  have h := run_make (P := Tryd.prog) W 29 4 i0 (.bool false) Tryd.underlying29 hi hz0 .i64 .i64 (n : Int) (n : Int) (by omega) (by omega) (by rw [hz2]; omega) (by omega)
  rw [h, hz1, Int.toNat_natCast, made_bos]
theorem bosA_sl {w : World} {b B : Nat} {bs : List Bool} (h : Blk w b 4 (bosA bs)) (hb : b < B) : BoSl w B (some ⟨b, 0, none⟩) bs := fun hne => ⟨b, 0, rfl, hb, fun i x hx k v hv => by
  simp only [bC, List.getElem?_cons] at hv
  split at hv
  · rename_i hk
    injection hv with hv
    subst hv
    rw [hk, h.cell, bosA_get, show 0 + i * 1 + 0 = i from by omega, hx]; rfl
  · simp at hv⟩
theorem run_at_bo (b n c k : Nat) (hk : k < n) (W : World) : (Instr.indexAt 29 (.slice (some ⟨b, 0, none⟩) n c) (.int .i64 (k : Int))).run Tryd.prog W = .ok (.pointer (some ⟨b, k, none⟩)) W := by
  go_simp
set_option maxRecDepth 100000 in
set_option maxHeartbeats 12800000 in
theorem r4_TableOf (e : List Nd) (f : Fm) (hf : f.Ok) (he : e = f.enc) (hsh : ∀ n ∈ e, shapedT n = true) (hl : e.length ≤ 200) (hok : NdOk e) (A : Option Addr) (c : Nat) (ss : List (List UInt8)) (An : Option Addr) (cn : Nat) (w : World) (h6 : ss.length ≤ 6) (hsl : NdSl w w.heap.size A e) (hs : StrSl w w.heap.size An ss) :
    Calls Tryd.prog 8 #[.slice A e.length c, .slice An ss.length cn] w fun r w' => BosRet w r w' (tabB (evL e) ss) := by
  obtain ⟨i0, hi, hz0, hz1, hz2⟩ := info_parts bo_info
  obtain ⟨T, hT⟩ : ∃ T, tabB (evL e) ss = T := ⟨_, rfl⟩
  obtain ⟨n, hn⟩ : ∃ n, ss.length = n := ⟨_, rfl⟩
  have hTL : Hid (T.length = 2 ^ n) := by show _ = _; rw [← hT, tabB_len, hn]
  have HSTEP : Hid (∀ bs : List Bool, bs.length = n → T.take (valB bs + 1) = T.take (valB bs) ++ [evL e (vL ss bs)]) := fun bs hb => by rw [← hT]; exact tab_step _ ss bs (by omega)
  have HIS : Hid (∀ W, RowKit.Below w.heap.size w W → ∀ bs : List Bool, bs.length = n → ∀ b, b < W.heap.size → Blk W b 4 (bosA bs) → Calls Tryd.prog 20 #[.slice A e.length c, .int .i64 0, .slice An n cn, .slice (some ⟨b, 0, none⟩) n n] W fun r w' => r = .returned (.bool (evL e (vL ss bs))) ∧ RowKit.Below W.heap.size W w') := fun W hW bs hb b hbl hB => by
    have h := is_all f hf e [] [] 0 ss bs A An (some ⟨b, 0, none⟩) c cn n W ⟨hl, hok, hsh, (hsl.below hW).more hW.size, (hs.below hW).more hW.size, bosA_sl hB hbl, by omega, h6, by omega⟩ (by simp [he]) rfl
    rw [hn, hb] at h
    rw [he, evL_enc _ hf, ← he]
    exact h
  have h64 : (2 : Nat) ^ n ≤ 64 := Nat.pow_le_pow_right (by omega) (by omega : n ≤ 6)
  have hmk := make_bos n (by omega)
  have hnn : n ≤ 6 := by omega
  rw [hT, hn]
  clear hT hsl hs hf he hsh hok hn
  obtain ⟨M, hM⟩ : ∃ M, 2 ^ n = M := ⟨_, rfl⟩
  rw [hM] at hTL h64
  have HM := Lib.hid hM
  clear hM
  have hM1 : 1 ≤ M := by rw [← HM.out]; exact Nat.one_le_two_pow
  have hVL : Hid (∀ bs : List Bool, bs.length = n → valB bs < M) := fun bs hb => by have := valB_lt bs; rw [hb, HM.out] at this; exact this
  go_enter Tryd.func8, Tryd.ntmps8
  go_wp2_with fail
  obtain ⟨W1, hW1e⟩ : ∃ W1, w.alloc (.cells (bosA (List.replicate n false)) 4) = W1 := ⟨_, rfl⟩
  have hW1 : RowKit.Below w.heap.size w W1 := by rw [← hW1e]; (repeat (first | assumption | exact Below.refl _ _ | apply Below.drew | apply below_drewN | (refine Below.alloc ?_ (by first | exact Nat.le_refl _ | omega | (simp; done) | (simp; omega)) _)))
  have hWz : w.heap.size < W1.heap.size := by rw [← hW1e]; simp
  have HB1 : Hid (Blk W1 w.heap.size 4 (bosA (List.replicate n false))) := by rw [← hW1e]; exact Blk.new w _ _
  try rw [hW1e]
  clear hW1e hmk
  go_loopg [5] M (fun g ov wr => ∃ bs : List Bool, Hid (bs.length = n) ∧ M - valB bs ≤ g ∧ Hid (wr.ownsRow W1.heap.size 4 1 ov (valB bs) (flatG bC (T.take (valB bs)))) ∧ Hid (Blk wr w.heap.size 4 (bosA bs)) ∧ RowKit.Below w.heap.size w wr ∧ W1.heap.size ≤ wr.heap.size)
  case atStart => exact ⟨List.replicate n false, by simp [Hid], by omega, by rw [valB_false]; simpa [flatG, Hid] using World.ownsRow_nil _ _ _ _, HB1.out, hW1, Nat.le_refl _⟩
  case round =>
    obtain ⟨bs, HBL, hg, HO, HB, hbr, hzr⟩ := hrel
    have hvl := hVL.out bs HBL.out
    have HC := Lib.hid (HIS.out _ hbr bs HBL.out w.heap.size (by omega) HB.out)
    go_wp2_with fail
    refine HC.out.mono ?_
    rintro r w2 ⟨rfl, hb2⟩
    have hw2 : RowKit.Below w.heap.size w w2 := hbr.trans (hb2.mono hbr.size)
    have hz2' : W1.heap.size ≤ w2.heap.size := Nat.le_trans hzr hb2.size
    have HO2 := Lib.hid (own_keep HO.out hb2)
    have HB2 := Lib.hid (HB.out.below hb2 (by omega))
    clear hb2 HO HB HC
    go_wp2_with (at_builtin; refine wpList_append_own _ rfl (.tmp 11) (.tmp 16) 29 rfl W1.heap.size 4 i0 _ 1 1 Tryd.underlying29 hi hz0 hz1 hz2 rfl (by omega) _ (valB bs) (flatG bC (T.take (valB bs))) rfl (HO2.out.alloc _) ⟨w2.heap.size, 0, none⟩ 1 1 [.bool (evL e (vL ss bs))] rfl rfl (cell_one_new _ _ _) (by simp [Value.oneCell']) (by unfold maxLen; omega) (by omega) (by simp; omega) ?_; intro v3 w3 hown3 hgrow3 _)
    have hbb : RowKit.Below W1.heap.size w2 w3 := ((RowKit.Below.refl _ _).alloc hz2' _).grown hgrow3 (by simp; omega) (fun q hq => (own_lt HO2.out hq).1)
    have hw3 : RowKit.Below w.heap.size w w3 := hw2.trans (hbb.mono (by omega))
    have hz3 : W1.heap.size ≤ w3.heap.size := Nat.le_trans hz2' hbb.size
    have HO3 : Hid (w3.ownsRow W1.heap.size 4 1 v3 (valB bs + 1) (flatG bC (T.take (valB bs + 1)))) := by
      show World.ownsRow _ _ _ _ _ _ _
      rw [HSTEP.out bs HBL.out, flatG_append, flatG_one]
      exact hown3
    have HB3 := Lib.hid (HB2.out.below hbb (by omega))
    clear hown3 hgrow3 hbb HO2 HB2 hw2 hz2'
    obtain ⟨wo, hwo⟩ : ∃ wo : World, wo = w3 := ⟨_, rfl⟩
    rw [← hwo] at hw3 hz3 HO3 HB3 ⊢
    clear hwo
    have ws : IntKind.i64.wrap ((n : Int) - 1) = (n : Int) - 1 := by rw [IntKind.wrap_i64]; omega
    go_wp2_with fail
    go_loopw [7] (fun kv wr => ∃ k : Nat, kv = .int .i64 ((k : Int) - 1) ∧ k ≤ n ∧ Hid (OnesAt bs (n - k)) ∧ Hid (wr.ownsRow W1.heap.size 4 1 v3 (valB bs + 1) (flatG bC (T.take (valB bs + 1)))) ∧ Hid (Blk wr w.heap.size 4 (bosA (clr bs (n - k)))) ∧ RowKit.Below w.heap.size w wr ∧ W1.heap.size ≤ wr.heap.size) (fun kv _ => (intOf kv + 1).toNat)
    case atStart => exact ⟨n, rfl, Nat.le_refl _, by rw [Nat.sub_self]; exact onesAt_zero bs, HO3.out, by rw [Nat.sub_self, clr_zero]; exact HB3.out, hw3, hz3⟩
    case round =>
      obtain ⟨k, rfl, hk, HON, HOk, HBk, hbk, hzk⟩ := hrel
      cases k with
      | zero =>
        have HALL : Hid (valB bs + 1 = M) := by
          have h := HON.out
          rw [Nat.sub_zero, ← HBL.out] at h
          have := all_ones h
          rw [HBL.out, HM.out] at this
          exact this
        rw [show (((0 : Nat) : Int) - 1) = -1 from rfl]
        obtain ⟨Ao, co, hv, hco, hcm4, hso⟩ : ∃ Ao co, v3 = .slice Ao (valB bs + 1) co ∧ (valB bs + 1) ≤ co ∧ co ≤ 9223372036854775807 ∧ BoSl wr wr.heap.size Ao (T.take (valB bs + 1)) := by
          obtain ⟨h0, A', c', h1, h2, h3, h4⟩ := own_formG bC_ok HOk.out
          exact ⟨A', c', h1, h2, h3, h4⟩
        subst hv
        have HSO := Lib.hid hso
        clear hso
        go_wp2_with fail
        go_ret
        have hTT : T.take (valB bs + 1) = T := List.take_of_length_le (by rw [hTL.out, HALL.out]; exact Nat.le_refl _)
        have h5 := HSO.out
        rw [hTT] at h5
        exact ⟨Ao, co, by rw [hTL.out, HALL.out]; rfl, by rw [hTL.out, ← HALL.out]; exact hco, hcm4, h5, hbk⟩
      | succ k =>
        rw [show (((k + 1 : Nat) : Int) - 1) = (k : Int) from by omega]
        obtain ⟨v, hv⟩ : ∃ v, bs[k]? = some v := ⟨_, List.getElem?_eq_getElem (by rw [HBL.out]; omega)⟩
        have hkk : Hid (bs.length - 1 - (n - (k + 1)) = k ∧ n - (k + 1) < bs.length ∧ n - (k + 1) + 1 = n - k) := by
          refine ⟨?_, ?_, ?_⟩ <;> (try rw [HBL.out]) <;> omega
        have hv' : bs[bs.length - 1 - (n - (k + 1))]? = some v := by rw [hkk.out.1]; exact hv
        have c0 : wr.cell? ⟨w.heap.size, k, none⟩ = some (.bool v) := by
          rw [HBk.out.cell, bosA_get]
          have := clr_get (bs := bs) (j := n - (k + 1)) hkk.out.2.1
          rw [hkk.out.1] at this
          rw [this, hv]; rfl
        have z0 := HBk.out.frozen k
        have hlw := HBk.out.lt
        have ra := run_at_bo w.heap.size n n k (by omega)
        have tk0 : decide ((0 : Int) ≤ (k : Int)) = true := by simp
        have HV := Lib.hid hv'
        clear hv hv'
        cases v with
        | true =>
          have HON2 : Hid (OnesAt bs (n - k)) := by
            rw [← hkk.out.2.2]; exact onesAt_step HON.out hkk.out.2.1 HV.out
          have HBk2 : Hid (Blk (wr.setCell ⟨w.heap.size, k, none⟩ (.bool false)) w.heap.size 4 (bosA (clr bs (n - k)))) := by
            have h := HBk.out.set k (.bool false)
            rw [bosA_set] at h
            have e := clr_step hkk.out.2.1 HV.out
            rw [hkk.out.1, hkk.out.2.2] at e
            rw [e] at h
            exact h
          go_wp2_with fail
          exact ⟨⟨k, by go_num, by omega, HON2, own_set HOk.out hWz _, HBk2.out, hbk.setCell (Nat.le_refl _) _, by simpa [World.setCell] using hzk⟩, by simp [intOf]⟩
        | false =>
          have HNX := Lib.hid (next_val HON.out hkk.out.2.1 HV.out)
          obtain ⟨bs2, hbs2⟩ : ∃ bs2, (clr bs (n - (k + 1))).set k true = bs2 := ⟨_, rfl⟩
          have HNX2 : Hid (valB bs2 = valB bs + 1 ∧ bs2.length = n) := by
            have h := HNX.out
            rw [hkk.out.1, hbs2, HBL.out] at h
            exact h
          have HBk2 : Hid (Blk (wr.setCell ⟨w.heap.size, k, none⟩ (.bool true)) w.heap.size 4 (bosA bs2)) := by
            have h := HBk.out.set k (.bool true)
            rw [bosA_set, hbs2] at h
            exact h
          have hv2 := hVL.out bs2 HNX2.out.2
          have HE2 : Hid (valB bs + 1 = valB bs2) := HNX2.out.1.symm
          have hm2 : valB bs < valB bs2 := by have := HNX2.out.1; omega
          clear hbs2
          rw [HE2.out] at HOk
          go_wp2_with fail
          go_roundg (M - valB bs2)
          case measure => omega
          case rel => exact ⟨bs2, HNX2.out.2, Nat.le_refl _, own_set HOk.out hWz _, HBk2.out, hbk.setCell (Nat.le_refl _) _, by simpa [World.setCell] using hzk⟩
end Go.Proofs.YtnhcjpmamgdeoaaDoor
namespace Go.Proofs.YtnhcjpmamgdeoaaDoor
open Go.RowKit

/-- A part of a table. -/
def subT (T : List Bool) (a l : Nat) : List Bool := (T.drop a).take l
/-- A part that is known: where it began, how long it was, which cell it is. -/
structure Kn where
  at_ : Nat
  long : Nat
  idx : Nat
def cOf (T : List Bool) : Nat → Nat → Int → List Ce → List Kn → (List Ce × List Kn) × Nat
  | 0, fr, _, cs, kn => ((cs, kn), if T[fr]? = some true then 1 else 0)
  | k + 1, fr, a, cs, kn =>
    if subT T fr (2 ^ k) = subT T (fr + 2 ^ k) (2 ^ k) then cOf T k fr (a + 1) cs kn
    else match kn.find? (fun e => e.long == 2 ^ (k + 1) && subT T e.at_ (2 ^ (k + 1)) == subT T fr (2 ^ (k + 1))) with
      | some e => ((cs, kn), e.idx)
      | none =>
        (((cOf T k (fr + 2 ^ k) (a + 1) (cOf T k fr (a + 1) cs kn).1.1 (cOf T k fr (a + 1) cs kn).1.2).1.1 ++ [⟨a, (cOf T k fr (a + 1) cs kn).2, (cOf T k (fr + 2 ^ k) (a + 1) (cOf T k fr (a + 1) cs kn).1.1 (cOf T k fr (a + 1) cs kn).1.2).2⟩],
          (cOf T k (fr + 2 ^ k) (a + 1) (cOf T k fr (a + 1) cs kn).1.1 (cOf T k fr (a + 1) cs kn).1.2).1.2 ++ [⟨fr, 2 ^ (k + 1), (cOf T k (fr + 2 ^ k) (a + 1) (cOf T k fr (a + 1) cs kn).1.1 (cOf T k fr (a + 1) cs kn).1.2).1.1.length⟩]),
          (cOf T k (fr + 2 ^ k) (a + 1) (cOf T k fr (a + 1) cs kn).1.1 (cOf T k fr (a + 1) cs kn).1.2).1.1.length)
theorem subT_len {T : List Bool} {a l : Nat} (h : a + l ≤ T.length) : (subT T a l).length = l := by
  unfold subT; rw [List.length_take, List.length_drop]; omega
theorem subT_lo (T : List Bool) (a k : Nat) : (subT T a (2 ^ (k + 1))).take (2 ^ k) = subT T a (2 ^ k) := by
  unfold subT; rw [List.take_take, Nat.pow_succ]; congr 1; omega
theorem subT_hi (T : List Bool) (a k : Nat) : (subT T a (2 ^ (k + 1))).drop (2 ^ k) = subT T (a + 2 ^ k) (2 ^ k) := by
  unfold subT; rw [List.drop_take, List.drop_drop, Nat.pow_succ]; congr 1; omega
theorem subT_split (T : List Bool) (a k : Nat) : subT T a (2 ^ (k + 1)) = subT T a (2 ^ k) ++ subT T (a + 2 ^ k) (2 ^ k) := by
  have h := List.take_append_drop (2 ^ k) (subT T a (2 ^ (k + 1)))
  rw [subT_lo, subT_hi] at h
  exact h.symm

/-- What a place tells already is that place. -/
theorem dOf_same {N : Int} {cs : List Ce} (h : CeOk N cs) : ∀ (k : Nat) (i : Nat) (a : Int), a + k = N → PlOk cs a i → dOf k cs (tabC cs k i a) a = (cs, i)
  | 0, i, a, ha, hp => by
    have hi : i < 2 := by
      apply Classical.byContradiction; intro h2
      have hc := List.getElem?_eq_getElem hp.1
      have h1 := hp.2 _ (by omega) hc
      have h3 := (h.low i _ hc (by omega)).2.2.2.2
      omega
    have : i = 0 ∨ i = 1 := by omega
    rcases this with rfl | rfl <;> simp [dOf, tabC]
  | k + 1, i, a, ha, hp => by
    obtain ⟨c, hc⟩ : ∃ c, cs[i]? = some c := ⟨_, List.getElem?_eq_getElem hp.1⟩
    have hlk : ∀ j b, (tabC cs k j b).length = 2 ^ k := fun j b => tabC_len cs k j b
    by_cases hq : 2 ≤ i ∧ c.atom = a
    · have hlo := h.low i c hc hq.1
      have e : tabC cs (k + 1) i a = tabC cs k c.low (a + 1) ++ tabC cs k c.high (a + 1) := tabC_cell hc hq.1 hq.2
      have hil := hp.1
      have pl : ∀ j, j = c.low ∨ j = c.high → PlOk cs (a + 1) j := fun j hj => ⟨by rcases hj with rfl | rfl <;> omega, fun d h2 hd => by have := h.up i c hc hq.1 j d hj h2 hd; have := hq.2; omega⟩
      rw [e, dOf, List.take_left' (hlk _ _), List.drop_left' (hlk _ _), dOf_same h k _ (a + 1) (by omega) (pl _ (.inl rfl))]
      simp only
      rw [dOf_same h k _ (a + 1) (by omega) (pl _ (.inr rfl))]
      simp only
      have hce : (⟨a, c.low, c.high⟩ : Ce) = c := by rw [← hq.2]
      rw [hce]
      have hlu := hlo.2.2.1
      have hdr : (cs.drop 2)[i - 2]? = some c := by rw [List.getElem?_drop, show 2 + (i - 2) = i from by omega]; exact hc
      have hid : (cs.drop 2).idxOf c = i - 2 := by
        obtain ⟨h1, h2⟩ := List.getElem?_eq_some_iff.1 hdr
        rw [← h2]
        exact h.once.idxOf_getElem _ h1
      unfold cellP
      rw [if_neg hlu, hid, if_pos (List.getElem?_eq_some_iff.1 hdr).1, show i - 2 + 2 = i from by omega]
    · have hp1 : PlOk cs (a + 1) i := ⟨hp.1, fun d h2 hd => by
        have h1 := hp.2 d h2 hd
        rw [hc] at hd; injection hd with hd; subst hd
        have : c.atom ≠ a := fun e => hq ⟨h2, e⟩
        omega⟩
      rw [tabC_skip hp1, dOf, List.take_left' (hlk _ _), List.drop_left' (hlk _ _), dOf_same h k _ (a + 1) (by omega) hp1]
      simp only
      rw [dOf_same h k _ (a + 1) (by omega) hp1]
      simp only [cellP, if_true]

/-- What is known is right, and all cells are known. -/
structure KnOk (T : List Bool) (N : Nat) (cs : List Ce) (kn : List Kn) : Prop where
  right : ∀ e ∈ kn, ∃ k, k < N ∧ e.long = 2 ^ (k + 1) ∧ PlOk cs ((N : Int) - (k + 1 : Nat)) e.idx ∧ tabC cs (k + 1) e.idx ((N : Int) - (k + 1 : Nat)) = subT T e.at_ (2 ^ (k + 1)) ∧ e.at_ + e.long ≤ T.length
  all : ∀ i c, cs[i]? = some c → 2 ≤ i → ∃ e ∈ kn, ∃ k : Nat, e.long = 2 ^ (k + 1) ∧ c.atom + ((k + 1 : Nat) : Int) = (N : Int) ∧ tabC cs (k + 1) i c.atom = subT T e.at_ (2 ^ (k + 1))
theorem pow_inj2 {a b : Nat} (h : 2 ^ a = 2 ^ b) : a = b := by
  rcases Nat.lt_trichotomy a b with h1 | h1 | h1
  · have := Nat.pow_lt_pow_right (a := 2) (by omega) h1; omega
  · exact h1
  · have := Nat.pow_lt_pow_right (a := 2) (by omega) h1; omega
theorem KnOk.more {T : List Bool} {N : Nat} {cs : List Ce} {kn : List Kn} (h : KnOk T N cs kn) (hc : CeOk N cs) (r : List Ce) : ∀ e ∈ kn, ∃ k, k < N ∧ e.long = 2 ^ (k + 1) ∧ PlOk (cs ++ r) ((N : Int) - (k + 1 : Nat)) e.idx ∧ tabC (cs ++ r) (k + 1) e.idx ((N : Int) - (k + 1 : Nat)) = subT T e.at_ (2 ^ (k + 1)) ∧ e.at_ + e.long ≤ T.length := fun e he => by
  obtain ⟨k, h0, h1, h2, h3, h4⟩ := h.right e he
  exact ⟨k, h0, h1, h2.more r, by rw [tabC_more hc r _ _ _ h2.1, h3], h4⟩

theorem cOf_ok {T : List Bool} {N : Nat} : ∀ (k : Nat) (fr : Nat) (a : Int) (cs : List Ce) (kn : List Kn), CeOk N cs → KnOk T N cs kn → 0 ≤ a → a + k = N → fr + 2 ^ k ≤ T.length →
    ∃ r, cOf T k fr a cs kn = (((dOf k cs (subT T fr (2 ^ k)) a).1, kn ++ r), (dOf k cs (subT T fr (2 ^ k)) a).2) ∧ KnOk T N (dOf k cs (subT T fr (2 ^ k)) a).1 (kn ++ r) ∧ ∀ e ∈ r, e.long ≤ 2 ^ k
  | 0, fr, a, cs, kn, hc, hk, h0, ha, hf => by
    refine ⟨[], ?_, by simpa [dOf] using hk, by simp⟩
    have hl : fr < T.length := by simp at hf; omega
    rw [cOf, dOf, List.append_nil]
    congr 2
    unfold subT
    rw [show 2 ^ 0 = 1 from rfl, List.drop_eq_getElem_cons hl, List.take_succ_cons, List.take_zero, List.head?_cons, List.getElem?_eq_getElem hl]
  | k + 1, fr, a, cs, kn, hc, hk, h0, ha, hf => by
    have hp2 : 2 ^ (k + 1) = 2 ^ k + 2 ^ k := by rw [Nat.pow_succ]; omega
    have hpk : 0 < 2 ^ k := Nat.two_pow_pos k
    rw [cOf, dOf, subT_lo, subT_hi]
    obtain ⟨r1, e1, o1, p1, t1⟩ := dOf_ok (N := N) k hc (subT T fr (2 ^ k)) (a + 1) (subT_len (by omega)) (by omega) (by omega)
    obtain ⟨s1, E1, K1, L1⟩ := cOf_ok k fr (a + 1) cs kn hc hk (by omega) (by omega) (by omega)
    by_cases hh : subT T fr (2 ^ k) = subT T (fr + 2 ^ k) (2 ^ k)
    · rw [if_pos hh, ← hh]
      rw [E1]
      rw [← e1] at o1 p1 t1
      have h2 := dOf_same o1 k _ (a + 1) (by omega) p1
      rw [t1] at h2
      rw [h2]
      simp only [cellP, if_true]
      exact ⟨s1, rfl, K1, fun e he => Nat.le_trans (L1 e he) (by omega)⟩
    · rw [if_neg hh]
      cases hfd : kn.find? (fun e => e.long == 2 ^ (k + 1) && subT T e.at_ (2 ^ (k + 1)) == subT T fr (2 ^ (k + 1))) with
      | some e =>
        simp only
        have hp := List.find?_some hfd
        have hm := List.mem_of_find?_eq_some hfd
        simp only [Bool.and_eq_true, beq_iff_eq] at hp
        obtain ⟨k2, q0, q1, q2, q3, q4⟩ := hk.right e hm
        obtain rfl : k2 = k := by
          have := pow_inj2 (q1.symm.trans hp.1)
          omega
        have haN : (N : Int) - (k2 + 1 : Nat) = a := by omega
        rw [haN] at q2 q3
        rw [hp.2] at q3
        have h2 := dOf_same hc (k2 + 1) _ a ha q2
        rw [q3, dOf, subT_lo, subT_hi] at h2
        rw [h2]
        exact ⟨[], by simp, by simpa using hk, by simp⟩
      | none =>
        simp only
        have hno := List.find?_eq_none.1 hfd
        rw [E1]
        simp only
        have o1' := o1
        rw [← e1] at o1'
        obtain ⟨s2, E2, K2, L2⟩ := cOf_ok k (fr + 2 ^ k) (a + 1) _ _ o1' K1 (by omega) (by omega) (by omega)
        rw [E2]
        simp only
        obtain ⟨r2, e2, o2, p2, t2⟩ := dOf_ok (N := N) k o1' (subT T (fr + 2 ^ k) (2 ^ k)) (a + 1) (subT_len (by omega)) (by omega) (by omega)
        rw [← e1] at p1 t1
        have p1' := p1.more r2
        have t1' := tabC_more o1' r2 k _ (a + 1) p1.1
        rw [← e2] at p1' t1' o2 p2 t2
        rw [t1] at t1'
        generalize hd1 : dOf k cs (subT T fr (2 ^ k)) (a + 1) = d1 at *
        generalize hd2 : dOf k d1.1 (subT T (fr + 2 ^ k) (2 ^ k)) (a + 1) = d2 at *
        have hlu : d1.2 ≠ d2.2 := fun e => hh (by rw [← t1', ← t2, e])
        have hl2 := o2.len
        have hnm : (⟨a, d1.2, d2.2⟩ : Ce) ∉ d2.1.drop 2 := by
          intro hm
          obtain ⟨j, hj⟩ := List.getElem?_of_mem hm
          rw [List.getElem?_drop] at hj
          obtain ⟨e, he, k2, g1, g2, g3⟩ := K2.all _ _ hj (by omega)
          simp only at g2 g3
          obtain rfl : k2 = k := by omega
          rw [tabC_cell hj (by omega) rfl] at g3
          simp only at g3
          rw [t1', t2, ← subT_split] at g3
          have hek : e ∈ kn := by
            rcases List.mem_append.1 he with he | he
            · rcases List.mem_append.1 he with he | he
              · exact he
              · have := L1 e he; omega
            · have := L2 e he; omega
          have := hno e hek
          simp [g1, g3] at this
        have hcp : cellP d2.1 ⟨a, d1.2, d2.2⟩ = (d2.1 ++ [⟨a, d1.2, d2.2⟩], d2.1.length) := by
          unfold cellP
          rw [if_neg hlu, if_neg (fun h => hnm (List.idxOf_lt_length_iff.1 h))]
        rw [hcp]
        simp only
        obtain ⟨r3, e3, o3, p3, t3⟩ := cellP_ok (N := N) (k := k) o2 p1' p2 h0 (by omega)
        rw [hcp] at e3 p3 t3
        simp only at e3 p3 t3
        rw [← e3] at o3 p3 t3
        rw [t1', t2, ← subT_split] at t3
        refine ⟨s1 ++ s2 ++ [⟨fr, 2 ^ (k + 1), d2.1.length⟩], by simp only [List.append_assoc], ?_, ?_⟩
        · rw [← List.append_assoc, ← List.append_assoc]
          constructor
          · intro e he
            rcases List.mem_append.1 he with he | he
            · exact K2.more o2 _ e he
            · rw [List.mem_singleton] at he
              subst he
              exact ⟨k, by omega, rfl, by rw [show (N : Int) - (k + 1 : Nat) = a from by omega]; exact p3, by rw [show (N : Int) - (k + 1 : Nat) = a from by omega]; exact t3, by simp only; omega⟩
          · intro i c hci hi
            by_cases hlt : i < d2.1.length
            · rw [List.getElem?_append_left hlt] at hci
              obtain ⟨e, he, k2, g1, g2, g3⟩ := K2.all i c hci hi
              exact ⟨e, List.mem_append_left _ he, k2, g1, g2, by rw [tabC_more o2 _ _ _ _ hlt, g3]⟩
            · have hi' : i = d2.1.length := by have := (List.getElem?_eq_some_iff.1 hci).1; simp at this; omega
              subst hi'
              simp at hci; subst hci
              exact ⟨⟨fr, 2 ^ (k + 1), d2.1.length⟩, by simp, k, rfl, by simp only; omega, t3⟩
        · intro e he
          simp only [List.mem_append, List.mem_singleton] at he
          rcases he with (he | he) | rfl
          · exact Nat.le_trans (L1 e he) (by omega)
          · exact Nat.le_trans (L2 e he) (by omega)
          · exact Nat.le_refl _
theorem knOk_base (T : List Bool) (N : Nat) : KnOk T N ceBase [] := ⟨fun e he => by simp at he, fun i c hc hi => by
  have := (List.getElem?_eq_some_iff.1 hc).1
  simp [ceBase] at this; omega⟩
/-- The reference's cells. -/
def diaQ (N : Nat) (T : List Bool) : List Ce :=
  if (cOf T N 0 0 ceBase []).2 < 2 then (cOf T N 0 0 ceBase []).1.1 ++ [⟨-1, (cOf T N 0 0 ceBase []).2, (cOf T N 0 0 ceBase []).2⟩] else (cOf T N 0 0 ceBase []).1.1
theorem diaQ_eq {N : Nat} {T : List Bool} (h : T.length = 2 ^ N) : diaQ N T = diaP N T := by
  obtain ⟨r, e, _, _⟩ := cOf_ok (T := T) (N := N) N 0 0 ceBase [] (ceBase_ok N) (knOk_base T N) (by omega) (by omega) (by omega)
  have hs : subT T 0 (2 ^ N) = T := by unfold subT; rw [List.drop_zero, List.take_of_length_le (by omega)]
  rw [hs] at e
  unfold diaQ diaP
  rw [e]
end Go.Proofs.YtnhcjpmamgdeoaaDoor
namespace Go.Proofs.YtnhcjpmamgdeoaaDoor
open Go.RowKit Go.Sort

theorem subT_step {T : List Bool} {a k : Nat} {b : Bool} (h : T[a + k]? = some b) : subT T a (k + 1) = subT T a k ++ [b] := by
  unfold subT
  rw [List.take_add_one, List.getElem?_drop, h]; rfl
theorem subT_ne {T : List Bool} {a b k l : Nat} (hk : k < l) (h : T[a + k]? ≠ T[b + k]?) : subT T a l ≠ subT T b l := by
  intro e
  apply h
  have := congrArg (fun l => l[k]?) e
  simp only [subT, List.getElem?_take, if_pos hk, List.getElem?_drop] at this
  exact this
theorem run_at_bo2 (b o n c k : Nat) (hk : k < n) (W : World) : (Instr.indexAt 29 (.slice (some ⟨b, o, none⟩) n c) (.int .i64 (k : Int))).run Tryd.prog W = .ok (.pointer (some ⟨b, o + k, none⟩)) W := by
  go_simp
set_option maxRecDepth 100000 in
set_option maxHeartbeats 6400000 in
theorem r4_sameTruth (T : List Bool) (b o c fa fb l : Nat) (w : World) (hs : BoSl w w.heap.size (some ⟨b, o, none⟩) T) (ha : fa + l ≤ T.length) (hb : fb + l ≤ T.length) (hT : T.length ≤ 1000) :
    Calls Tryd.prog 31 #[.slice (some ⟨b, o, none⟩) T.length c, .int .i64 (fa : Int), .int .i64 (fb : Int), .int .i64 (l : Int)] w fun r w' => r = .returned (.bool (subT T fa l == subT T fb l)) ∧ RowKit.Below w.heap.size w w' := by
  obtain ⟨q, hq⟩ : ∃ q, (subT T fa l == subT T fb l) = q := ⟨_, rfl⟩
  rw [hq]
  have HQ := Lib.hid hq
  have HS := Lib.hid hs
  clear hq hs
  go_enter Tryd.func31, Tryd.ntmps31
  go_wp2_with fail
  go_loopw [9] (fun ii wr => ∃ k : Nat, ii = .int .i64 k ∧ k ≤ l ∧ Hid (subT T fa k = subT T fb k) ∧ RowKit.Below w.heap.size w wr) (fun ii _ => l - (intOf ii).toNat)
  case atStart => exact ⟨0, rfl, by omega, by simp [subT, Hid], RowKit.Below.refl _ _⟩
  case round =>
    obtain ⟨k, rfl, hk, HK, hbr⟩ := hrel
    have hzr := hbr.size
    by_cases hlt : k < l
    · obtain ⟨x, hx⟩ : ∃ x, T[fa + k]? = some x := ⟨_, List.getElem?_eq_getElem (by omega)⟩
      obtain ⟨y, hy⟩ : ∃ y, T[fb + k]? = some y := ⟨_, List.getElem?_eq_getElem (by omega)⟩
      obtain ⟨b1, o1, e1, hb1, c0⟩ := boSl_at (HS.out.below hbr) hx
      injection e1 with e1
      injection e1 with e1 e2
      subst e1 e2
      obtain ⟨b1, o1, e1, hb2, c1⟩ := boSl_at (HS.out.below hbr) hy
      injection e1 with e1
      injection e1 with e1 e2
      subst e1 e2
      have HX := Lib.hid hx
      have HY := Lib.hid hy
      obtain ⟨ia, hia⟩ : ∃ ia, fa + k = ia := ⟨_, rfl⟩
      obtain ⟨ib, hib⟩ : ∃ ib, fb + k = ib := ⟨_, rfl⟩
      have wa : IntKind.i64.wrap ((fa : Int) + (k : Int)) = (ia : Int) := by rw [IntKind.wrap_i64]; omega
      have wb : IntKind.i64.wrap ((fb : Int) + (k : Int)) = (ib : Int) := by rw [IntKind.wrap_i64]; omega
      rw [hia] at c0
      rw [hib] at c1
      have ra := run_at_bo2 b o T.length c ia (by omega)
      have rb := run_at_bo2 b o T.length c ib (by omega)
      have hli : (k : Int) < (l : Int) := by omega
      clear hx hy hia hib
      by_cases hxy : x = y
      · have HK2 : Hid (subT T fa (k + 1) = subT T fb (k + 1)) := by show _ = _; rw [subT_step HX.out, subT_step HY.out, HK.out, hxy]
        subst hxy
        cases x
        all_goals
          go_wp2_with fail
          go_quiet (fail)
          go_wp2_with fail
          exact ⟨⟨k + 1, by go_num, by omega, HK2, by (repeat (first | assumption | exact Below.refl _ _ | apply Below.drew | apply below_drewN | (refine Below.alloc ?_ (by first | exact Nat.le_refl _ | omega | (simp; done) | (simp; omega)) _)))⟩, by simp [intOf]; omega⟩
      · have hv : Hid (q = false) := by
          show _ = _
          rw [← HQ.out, beq_eq_false_iff_ne]
          exact subT_ne hlt (by rw [HX.out, HY.out]; simpa using hxy)
        cases x <;> cases y
        · exact absurd rfl hxy
        · clear hxy
          go_wp2_with fail
          go_quiet (fail)
          go_wp2_with fail
          go_ret
          rw [hv.out]
          exact ⟨rfl, by (repeat (first | assumption | exact Below.refl _ _ | apply Below.drew | apply below_drewN | (refine Below.alloc ?_ (by first | exact Nat.le_refl _ | omega | (simp; done) | (simp; omega)) _)))⟩
        · clear hxy
          go_wp2_with fail
          go_quiet (fail)
          go_wp2_with fail
          go_ret
          rw [hv.out]
          exact ⟨rfl, by (repeat (first | assumption | exact Below.refl _ _ | apply Below.drew | apply below_drewN | (refine Below.alloc ?_ (by first | exact Nat.le_refl _ | omega | (simp; done) | (simp; omega)) _)))⟩
        · exact absurd rfl hxy
    · have hv : Hid (q = true) := by
        show _ = _
        have hkl : k = l := by omega
        have := HK.out
        rw [hkl] at this
        rw [← HQ.out, this]; simp
      go_wp2_with fail
      go_ret
      rw [hv.out]
      exact ⟨rfl, hbr⟩
def knL (kn : List Kn) : List Nat := kn.flatMap fun e => [e.at_, e.long, e.idx]
theorem knL_len (kn : List Kn) : (knL kn).length = 3 * kn.length := by
  induction kn with
  | nil => rfl
  | cons e r ih => unfold knL at ih ⊢; rw [List.flatMap_cons, List.length_append, ih]; simp; omega
theorem knL_app (kn r : List Kn) : knL (kn ++ r) = knL kn ++ knL r := by simp [knL]
theorem knL_get {kn : List Kn} {j : Nat} {e : Kn} (h : kn[j]? = some e) : (knL kn)[3 * j]? = some e.at_ ∧ (knL kn)[3 * j + 1]? = some e.long ∧ (knL kn)[3 * j + 2]? = some e.idx := by
  induction kn generalizing j with
  | nil => simp at h
  | cons x r ih =>
    have hc : knL (x :: r) = x.at_ :: x.long :: x.idx :: knL r := by simp [knL]
    rw [hc]
    cases j with
    | zero => simp at h; subst h; simp
    | succ j =>
      have := ih (by simpa using h)
      rw [show 3 * (j + 1) = 3 * j + 1 + 1 + 1 from by omega]
      simpa using this
theorem cOf_len (T : List Bool) : ∀ (k fr : Nat) (a : Int) (cs : List Ce) (kn : List Kn), (cOf T k fr a cs kn).1.1.length + 1 ≤ cs.length + 2 ^ k ∧ (cOf T k fr a cs kn).1.2.length + 1 ≤ kn.length + 2 ^ k ∧ cs.length ≤ (cOf T k fr a cs kn).1.1.length
  | 0, fr, a, cs, kn => by simp [cOf]
  | k + 1, fr, a, cs, kn => by
    have hp2 : 2 ^ (k + 1) = 2 ^ k + 2 ^ k := by rw [Nat.pow_succ]; omega
    have h1 := cOf_len T k fr (a + 1) cs kn
    have h2 := cOf_len T k (fr + 2 ^ k) (a + 1) (cOf T k fr (a + 1) cs kn).1.1 (cOf T k fr (a + 1) cs kn).1.2
    have hpk : 0 < 2 ^ k := Nat.two_pow_pos k
    rw [cOf]
    split
    · omega
    · split
      · simp only; omega
      · simp only [List.length_append, List.length_singleton]; omega
theorem find_take {α : Type} {p : α → Bool} {l : List α} {j : Nat} {e : α} (h : ∀ x ∈ l.take j, p x = false) (he : l[j]? = some e) (hp : p e = true) : l.find? p = some e := by
  obtain ⟨h1, h2⟩ := List.getElem?_eq_some_iff.1 he
  rw [← List.take_append_drop j l, List.find?_append, List.drop_eq_getElem_cons h1, h2, List.find?_cons_of_pos hp]
  rw [List.find?_eq_none.2 (by intro x hx; rw [h x hx]; simp)]; rfl
def Sep (v1 v2 : Value) : Prop := ∀ b, v1.ownBlock = some b → v2.ownBlock ≠ some b
def CoPost (base : Nat) (w : World) (R : (List Ce × List Kn) × Nat) (r : Ending) (w' : World) : Prop :=
  ∃ v1 v2, r = .returned (.tuple #[v1, v2, .int .i64 (R.2 : Int)]) ∧ w'.ownsRow base 51 3 v1 R.1.1.length (flatG ceC R.1.1) ∧ w'.ownsRow base 3 1 v2 (knL R.1.2).length (flatG inC (knL R.1.2)) ∧ Sep v1 v2 ∧ RowKit.Below base w w'
def fitB (T : List Bool) (fr l : Nat) (e : Kn) : Bool := e.long == l && subT T e.at_ l == subT T fr l
def KnIn (T : List Bool) (kn : List Kn) : Prop := ∀ e ∈ kn, e.at_ + e.long ≤ T.length ∧ e.idx ≤ 100000
theorem cOf_in (T : List Bool) : ∀ (k fr : Nat) (a : Int) (cs : List Ce) (kn : List Kn), KnIn T kn → cs.length + 2 ^ k ≤ 1000 → fr + 2 ^ k ≤ T.length → KnIn T (cOf T k fr a cs kn).1.2 ∧ (cOf T k fr a cs kn).2 ≤ 100000
  | 0, fr, a, cs, kn, h, hl, hf => by
    rw [cOf]
    refine ⟨h, ?_⟩
    split <;> simp
  | k + 1, fr, a, cs, kn, h, hl, hf => by
    have hp2 : 2 ^ (k + 1) = 2 ^ k + 2 ^ k := by rw [Nat.pow_succ]; omega
    have hpk : 0 < 2 ^ k := Nat.two_pow_pos k
    have l1 := cOf_len T k fr (a + 1) cs kn
    obtain ⟨h1, h1'⟩ := cOf_in T k fr (a + 1) cs kn h (by omega) (by omega)
    have l2 := cOf_len T k (fr + 2 ^ k) (a + 1) (cOf T k fr (a + 1) cs kn).1.1 (cOf T k fr (a + 1) cs kn).1.2
    obtain ⟨h2, h2'⟩ := cOf_in T k (fr + 2 ^ k) (a + 1) (cOf T k fr (a + 1) cs kn).1.1 _ h1 (by omega) (by omega)
    rw [cOf]
    split
    · exact ⟨h1, h1'⟩
    · split
      · rename_i e he
        exact ⟨h, (h e (List.mem_of_find?_eq_some he)).2⟩
      · refine ⟨?_, by have := l2.1; simp only; omega⟩
        intro e he
        simp only [List.mem_append, List.mem_singleton] at he
        rcases he with he | rfl
        · exact h2 e he
        · simp only; omega
theorem own_oth {w w' : World} {base k n : Nat} {e : TypeId} {v : Value} {xs : List Value} {q : Option Nat} (h : w.ownsRow base e k v n xs) (hg : w.grownBy w' q) (hq : ∀ b, v.ownBlock = some b → q ≠ some b) : w'.ownsRow base e k v n xs := by
  refine h.kept hg ?_
  cases hv : v.ownBlock with
  | none => exact .inl rfl
  | some b => exact .inr (fun e => hq b hv e.symm)
theorem sep_at {v1 v1' v2 : Value} {w : World} {base k n : Nat} {e : TypeId} {xs : List Value} {N : Nat} (h : Sep v1 v2) (h2 : w.ownsRow base e k v2 n xs) (hN : w.heap.size ≤ N) (hloc : v1'.ownBlock = v1.ownBlock ∨ v1'.ownBlock = some N) : Sep v1' v2 := fun b hb hc => by
  rcases hloc with h0 | h0
  · exact h b (by rw [← h0]; exact hb) hc
  · rw [hb] at h0
    injection h0 with h0
    have := (own_lt h2 hc).2
    omega
theorem Sep.symm {v1 v2 : Value} (h : Sep v1 v2) : Sep v2 v1 := fun b hb hc => h b hc hb
set_option maxRecDepth 100000 in
set_option maxHeartbeats 12800000 in
theorem r4_cellsOf (base : Nat) (T : List Bool) (b o c : Nat) (hT : T.length ≤ 64) : ∀ (k fr : Nat) (a : Int) (cs : List Ce) (kn : List Kn) (v1 v2 : Value) (w : World), k ≤ 6 → fr + 2 ^ k ≤ T.length → BoSl w base (some ⟨b, o, none⟩) T → base ≤ w.heap.size →
    w.ownsRow base 51 3 v1 cs.length (flatG ceC cs) → w.ownsRow base 3 1 v2 (knL kn).length (flatG inC (knL kn)) → Sep v1 v2 → KnIn T kn → cs.length + 2 ^ k ≤ 1000 → kn.length + 2 ^ k ≤ 1000 → 0 ≤ a → a + k ≤ 100 →
    Calls Tryd.prog 19 #[.slice (some ⟨b, o, none⟩) T.length c, .int .i64 (fr : Int), .int .i64 ((2 ^ k : Nat) : Int), .int .i64 a, v1, v2] w (CoPost base w (cOf T k fr a cs kn))
  | 0, fr, a, cs, kn, v1, v2, w, hk, hf, hs, hbw, h1, h2, hsep, hin, hl1, hl2, ha, hak => by
    obtain ⟨x, hx⟩ : ∃ x, T[fr]? = some x := ⟨_, List.getElem?_eq_getElem (by simp at hf; omega)⟩
    obtain ⟨b1, o1, e1, hb1, c0⟩ := boSl_at hs hx
    injection e1 with e1
    injection e1 with e1 e2
    subst e1 e2
    have ra := run_at_bo2 b o T.length c fr (by simp at hf; omega)
    have HV : Hid (cOf T 0 fr a cs kn = ((cs, kn), if x = true then 1 else 0)) := by
      show _ = _
      rw [cOf, hx]
      cases x <;> rfl
    rw [HV.out]
    have H1 := Lib.hid h1
    have H2 := Lib.hid h2
    clear hx hs h1 h2 hin hl1 hl2 hf
    rw [show ((2 ^ 0 : Nat) : Int) = 1 from rfl]
    cases x
    · go_enter Tryd.func19, Tryd.ntmps19
      go_wp2_with fail
      go_ret3
      exact ⟨v1, v2, rfl, H1.out, H2.out, hsep, RowKit.Below.refl _ _⟩
    · go_enter Tryd.func19, Tryd.ntmps19
      go_wp2_with fail
      go_ret3
      exact ⟨v1, v2, rfl, H1.out, H2.out, hsep, RowKit.Below.refl _ _⟩
  | k + 1, fr, a, cs, kn, v1, v2, w, hk, hf, hs, hbw, h1, h2, hsep, hin, hl1, hl2, ha, hak => by
    obtain ⟨m, hm⟩ : ∃ m, 2 ^ k = m := ⟨_, rfl⟩
    have hm1 : 1 ≤ m := by rw [← hm]; exact Nat.one_le_two_pow
    have hm2 : m ≤ 32 := by rw [← hm]; exact Nat.pow_le_pow_right (by omega) (show k ≤ 5 by omega)
    have hp2 : 2 ^ (k + 1) = m * 2 := by rw [Nat.pow_succ, hm]
    rw [hp2] at hf hl1 hl2 ⊢
    have HSM : Hid (∀ W, RowKit.Below base w W → base ≤ W.heap.size → ∀ (fa fb l : Nat), fa + l ≤ T.length → fb + l ≤ T.length → Calls Tryd.prog 31 #[.slice (some ⟨b, o, none⟩) T.length c, .int .i64 (fa : Int), .int .i64 (fb : Int), .int .i64 (l : Int)] W fun r w' => r = .returned (.bool (subT T fa l == subT T fb l)) ∧ RowKit.Below W.heap.size W w') :=
      fun W hW hz fa fb l e1 e2 => r4_sameTruth T b o c fa fb l W ((hs.below hW).more hz) e1 e2 (by omega)
    have HL := cOf_len T k fr (a + 1) cs kn
    rw [hm] at HL
    have HI := cOf_in T k fr (a + 1) cs kn hin (by rw [hm]; omega) (by rw [hm]; omega)
    have H1 : Hid (∀ W, RowKit.Below w.heap.size w W → Calls Tryd.prog 19 #[.slice (some ⟨b, o, none⟩) T.length c, .int .i64 (fr : Int), .int .i64 (m : Int), .int .i64 (a + 1), v1, v2] W (CoPost base W (cOf T k fr (a + 1) cs kn))) := fun W hW => by
      have h := r4_cellsOf base T b o c hT k fr (a + 1) cs kn v1 v2 W (by omega) (by rw [hm]; omega) (hs.below (hW.mono hbw)) (Nat.le_trans hbw hW.size) (own_keep h1 hW) (own_keep h2 hW) hsep hin (by rw [hm]; omega) (by rw [hm]; omega) (by omega) (by omega)
      rw [hm] at h
      exact h
    have H2 : Hid (∀ W u1 u2, RowKit.Below base w W → base ≤ W.heap.size → W.ownsRow base 51 3 u1 (cOf T k fr (a + 1) cs kn).1.1.length (flatG ceC (cOf T k fr (a + 1) cs kn).1.1) → W.ownsRow base 3 1 u2 (knL (cOf T k fr (a + 1) cs kn).1.2).length (flatG inC (knL (cOf T k fr (a + 1) cs kn).1.2)) → Sep u1 u2 →
        Calls Tryd.prog 19 #[.slice (some ⟨b, o, none⟩) T.length c, .int .i64 ((fr : Int) + (m : Int)), .int .i64 (m : Int), .int .i64 (a + 1), u1, u2] W (CoPost base W (cOf T k (fr + m) (a + 1) (cOf T k fr (a + 1) cs kn).1.1 (cOf T k fr (a + 1) cs kn).1.2))) := fun W u1 u2 hW hz o1 o2 s12 => by
      have h := r4_cellsOf base T b o c hT k (fr + m) (a + 1) _ _ u1 u2 W (by omega) (by rw [hm]; omega) (hs.below hW) hz o1 o2 s12 HI.1 (by rw [hm]; omega) (by rw [hm]; omega) (by omega) (by omega)
      rw [hm, Int.natCast_add] at h
      exact h
    have HL2 := cOf_len T k (fr + m) (a + 1) (cOf T k fr (a + 1) cs kn).1.1 (cOf T k fr (a + 1) cs kn).1.2
    rw [hm] at HL2
    have HI2 := (cOf_in T k (fr + m) (a + 1) (cOf T k fr (a + 1) cs kn).1.1 (cOf T k fr (a + 1) cs kn).1.2 HI.1 (by rw [hm]; omega) (by rw [hm]; omega))
    have HIi := HI.2
    obtain ⟨R, hR⟩ : ∃ R, cOf T (k + 1) fr a cs kn = R := ⟨_, rfl⟩
    have HR : Hid (R = if subT T fr m = subT T (fr + m) m then cOf T k fr (a + 1) cs kn
        else match kn.find? (fitB T fr (m * 2)) with
          | some e => ((cs, kn), e.idx)
          | none =>
            (((cOf T k (fr + m) (a + 1) (cOf T k fr (a + 1) cs kn).1.1 (cOf T k fr (a + 1) cs kn).1.2).1.1 ++ [⟨a, (cOf T k fr (a + 1) cs kn).2, (cOf T k (fr + m) (a + 1) (cOf T k fr (a + 1) cs kn).1.1 (cOf T k fr (a + 1) cs kn).1.2).2⟩],
              (cOf T k (fr + m) (a + 1) (cOf T k fr (a + 1) cs kn).1.1 (cOf T k fr (a + 1) cs kn).1.2).1.2 ++ [⟨fr, m * 2, (cOf T k (fr + m) (a + 1) (cOf T k fr (a + 1) cs kn).1.1 (cOf T k fr (a + 1) cs kn).1.2).1.1.length⟩]),
              (cOf T k (fr + m) (a + 1) (cOf T k fr (a + 1) cs kn).1.1 (cOf T k fr (a + 1) cs kn).1.2).1.1.length)) := by
      show _ = _
      rw [← hR, cOf, hp2, hm]
      rfl
    rw [hR]
    clear hR
    generalize cOf T k fr (a + 1) cs kn = P1 at HL HIi H1 H2 HL2 HI2 HR HI
    generalize cOf T k (fr + m) (a + 1) P1.1.1 P1.1.2 = P2 at H2 HL2 HI2 HR
    obtain ⟨⟨cs1, kn1⟩, i1⟩ := P1
    obtain ⟨⟨cs2, kn2⟩, i2⟩ := P2
    simp only at HL HIi H1 H2 HL2 HI2 HR HI
    have HIi2 := HI2.2
    have ta : IntKind.i64.wrap (a + 1) = a + 1 := by rw [IntKind.wrap_i64]; omega
    have tf : IntKind.i64.wrap ((fr : Int) + (m : Int)) = (fr : Int) + (m : Int) := by rw [IntKind.wrap_i64]; omega
    obtain ⟨-, A2, c2, hv2, hc2, hcm2, hsl2⟩ := own_formG inC_ok h2
    subst hv2
    obtain ⟨L, hL⟩ : ∃ L, m * 2 = L := ⟨_, rfl⟩
    rw [hL] at hf hl1 hl2 HR ⊢
    have hL1 : m * 2 ≤ L := by omega
    have hL2 : L ≤ m * 2 := by omega
    have hdv : (L : Int) / 2 = (m : Int) := by omega
    have HS0 : Hid (Calls Tryd.prog 31 #[.slice (some ⟨b, o, none⟩) T.length c, .int .i64 (fr : Int), .int .i64 ((fr : Int) + (m : Int)), .int .i64 (m : Int)] w fun r w' => r = .returned (.bool (subT T fr m == subT T (fr + m) m)) ∧ RowKit.Below w.heap.size w w') := by
      have h := HSM.out w (RowKit.Below.refl _ _) hbw fr (fr + m) m (by omega) (by omega)
      rw [Int.natCast_add] at h
      exact h
    have HO1 := Lib.hid h1
    have HO2 := Lib.hid h2
    have HSL := Lib.hid hsl2
    have HKI := Lib.hid hin
    have HSEP := Lib.hid hsep
    have hkl : (knL kn).length = 3 * kn.length := knL_len kn
    have HKL := Lib.hid hkl
    have hkb : (knL kn).length ≤ 3000 := by omega
    have tm1 : ((L : Int) == 1) = false := by simp; omega
    obtain ⟨K, hK⟩ : ∃ K, (knL kn).length = K := ⟨_, rfl⟩
    have HKK := Lib.hid hK
    rw [hK] at HO2 H1 hkb hc2 HKL ⊢
    clear h1 h2 hs hsl2 hin hsep hp2 hm hkl hL hK
    go_enter Tryd.func19, Tryd.ntmps19
    go_wp2_with fail
    refine HS0.out.mono ?_
    rintro r w1 ⟨rfl, hb1⟩
    clear HS0
    by_cases hh : subT T fr m = subT T (fr + m) m
    · have HR2 : Hid (R = ((cs1, kn1), i1)) := by show _ = _; rw [HR.out, if_pos hh]
      rw [show (subT T fr m == subT T (fr + m) m) = true from by simp [hh]]
      clear hh HR
      go_wp2_with fail
      refine (H1.out _ hb1).mono ?_
      rintro r w2 ⟨u1, u2, rfl, ho1, ho2, hs12, hb2⟩
      have HU1 := Lib.hid ho1
      have HU2 := Lib.hid ho2
      clear ho1 ho2
      go_wp2_with fail
      go_ret3
      rw [HR2.out]
      exact ⟨u1, u2, rfl, HU1.out, HU2.out, hs12, (hb1.mono hbw).trans hb2⟩
    · have HR2 : Hid (R = match kn.find? (fitB T fr L) with
          | some e => ((cs, kn), e.idx)
          | none => ((cs2 ++ [⟨a, i1, i2⟩], kn2 ++ [⟨fr, L, cs2.length⟩]), cs2.length)) := by show _ = _; rw [HR.out, if_neg hh]
      rw [show (subT T fr m == subT T (fr + m) m) = false from by simp [hh]]
      clear hh HR
      have hw1 := hb1
      clear hb1
      go_wp2_with fail
      go_loopw [16] (fun iv wr => ∃ i j : Nat, iv = .int .i64 i ∧ i ≤ K ∧ Hid (i = 3 * j) ∧ Hid (∀ e ∈ kn.take j, fitB T fr L e = false) ∧ RowKit.Below w.heap.size w wr) (fun iv _ => K - (intOf iv).toNat)
      case atStart => exact ⟨0, 0, rfl, by omega, rfl, by simp [Hid], hw1⟩
      case round =>
        obtain ⟨i, j, rfl, hi, HIJ, HNO, hbr⟩ := hrel
        have hzr := hbr.size
        by_cases hlt : i < K
        · have hjl : j < kn.length := by have := HIJ.out; have := HKL.out; omega
          obtain ⟨e, he⟩ : ∃ e, kn[j]? = some e := ⟨_, List.getElem?_eq_getElem hjl⟩
          obtain ⟨g0, g1, g2⟩ := knL_get he
          rw [← HIJ.out] at g0 g1 g2
          obtain ⟨kb, ko, rfl, hkbl, q0⟩ := inSl_at HSL.out g0
          obtain ⟨b1, o1, e1, _, q1⟩ := inSl_at HSL.out g1
          injection e1 with e1
          injection e1 with e1 e2
          subst e1 e2
          obtain ⟨b1, o1, e1, _, q2⟩ := inSl_at HSL.out g2
          injection e1 with e1
          injection e1 with e1 e2
          subst e1 e2
          have hi3 : i + 3 ≤ K := by have := HIJ.out; have := HKL.out; omega
          obtain ⟨ia, hia⟩ : ∃ ia, i + 1 = ia := ⟨_, rfl⟩
          obtain ⟨ib, hib⟩ : ∃ ib, i + 2 = ib := ⟨_, rfl⟩
          have wa : IntKind.i64.wrap ((i : Int) + 1) = (ia : Int) := by rw [IntKind.wrap_i64]; omega
          have wb : IntKind.i64.wrap ((i : Int) + 2) = (ib : Int) := by rw [IntKind.wrap_i64]; omega
          rw [hia] at q1
          rw [hib] at q2
          have ra := run_at_int kb ko K c2 i (by omega)
          have rb := run_at_int kb ko K c2 ia (by omega)
          have rc := run_at_int kb ko K c2 ib (by omega)
          have k0 := (hbr.cell (p := ⟨kb, ko + i, none⟩) hkbl).trans q0
          have k1 := (hbr.cell (p := ⟨kb, ko + ia, none⟩) hkbl).trans q1
          have k2 := (hbr.cell (p := ⟨kb, ko + ib, none⟩) hkbl).trans q2
          have hkbr : kb < wr.heap.size := by omega
          have HE := Lib.hid he
          have HEI := Lib.hid (HKI.out e (List.mem_of_getElem? he))
          have hei : e.idx ≤ 100000 := HEI.out.2
          clear he g0 g1 g2 q0 q1 q2 hia hib
          by_cases hel : e.long = L
          · have tl : ((e.long : Int) == (L : Int)) = true := by simp [hel]
            have HC := Lib.hid (HSM.out wr (hbr.mono hbw) (Nat.le_trans hbw hzr) e.at_ fr L (by have := HEI.out.1; omega) (by omega))
            have HELL := Lib.hid hel
            clear hel
            go_wp2_with fail
            refine HC.out.mono ?_
            rintro r w2 ⟨rfl, hb2⟩
            have hw2 := hbr.trans (hb2.mono hzr)
            have k3 := (hb2.cell (p := ⟨kb, ko + ib, none⟩) hkbr).trans k2
            have hkb2 : kb < w2.heap.size := by have := hb2.size; omega
            clear k0 k1 k2 ra rb HC hb2
            by_cases hq : subT T e.at_ L = subT T fr L
            · have HR3 : Hid (R = ((cs, kn), e.idx)) := by
                show _ = _
                rw [HR2.out, find_take HNO.out HE.out (by unfold fitB; rw [HELL.out, hq]; simp)]
              rw [show (subT T e.at_ L == subT T fr L) = true from by simp [hq]]
              clear hq HR2
              go_wp2_with fail
              go_quiet (fail)
              go_wp2_with fail
              go_ret3
              rw [HR3.out]
              exact ⟨v1, _, rfl, own_keep HO1.out (by (repeat (first | assumption | exact Below.refl _ _ | apply Below.drew | apply below_drewN | (refine Below.alloc ?_ (by first | exact Nat.le_refl _ | omega | (simp; done) | (simp; omega)) _)))), by rw [HKK.out]; exact own_keep HO2.out (by (repeat (first | assumption | exact Below.refl _ _ | apply Below.drew | apply below_drewN | (refine Below.alloc ?_ (by first | exact Nat.le_refl _ | omega | (simp; done) | (simp; omega)) _)))), HSEP.out, RowKit.Below.mono (by (repeat (first | assumption | exact Below.refl _ _ | apply Below.drew | apply below_drewN | (refine Below.alloc ?_ (by first | exact Nat.le_refl _ | omega | (simp; done) | (simp; omega)) _)))) hbw⟩
            · have HNO2 : Hid (∀ x ∈ kn.take (j + 1), fitB T fr L x = false) := by
                intro x hx
                rw [List.take_add_one, HE.out] at hx
                simp only [Option.toList, List.mem_append, List.mem_singleton] at hx
                rcases hx with hx | rfl
                · exact HNO.out x hx
                · unfold fitB; simp [hq]
              rw [show (subT T e.at_ L == subT T fr L) = false from by simp [hq]]
              have HIJ2 : Hid (i + 3 = 3 * (j + 1)) := by have := HIJ.out; show _ = _; omega
              clear hq
              go_wp2_with fail
              exact ⟨⟨i + 3, j + 1, by go_num, by omega, HIJ2, HNO2, hw2⟩, by simp [intOf]; omega⟩
          · have tl : ((e.long : Int) == (L : Int)) = false := by simp; omega
            have HNO2 : Hid (∀ x ∈ kn.take (j + 1), fitB T fr L x = false) := by
              intro x hx
              rw [List.take_add_one, HE.out] at hx
              simp only [Option.toList, List.mem_append, List.mem_singleton] at hx
              rcases hx with hx | rfl
              · exact HNO.out x hx
              · unfold fitB; simp [hel]
            have HIJ2 : Hid (i + 3 = 3 * (j + 1)) := by have := HIJ.out; show _ = _; omega
            clear hel
            go_wp2_with fail
            exact ⟨⟨i + 3, j + 1, by go_num, by omega, HIJ2, HNO2, hbr⟩, by simp [intOf]; omega⟩
        · have HR3 : Hid (R = ((cs2 ++ [⟨a, i1, i2⟩], kn2 ++ [⟨fr, L, cs2.length⟩]), cs2.length)) := by
            show _ = _
            have hjk : kn.length ≤ j := by have := HIJ.out; have := HKL.out; omega
            have hn := HNO.out
            rw [List.take_of_length_le hjk] at hn
            rw [HR2.out, List.find?_eq_none.2 (by intro x hx; rw [hn x hx]; simp)]
          clear HR2 HNO HIJ
          go_wp2_with fail
          refine (H1.out _ hbr).mono ?_
          rintro r w2 ⟨u1, u2, rfl, ho1, ho2, hs12, hb2⟩
          have hw2 : RowKit.Below base w w2 := (hbr.mono hbw).trans hb2
          have hz2 : base ≤ w2.heap.size := Nat.le_trans hbw hw2.size
          have HU := Lib.hid (H2.out w2 u1 u2 hw2 hz2 ho1 ho2 hs12)
          clear ho1 ho2 hs12 hb2 H1 H2 HO1 HO2 HSL HSEP HSM HKI HKK
          go_wp2_with fail
          refine HU.out.mono ?_
          rintro r w3 ⟨u3, u4, rfl, ho3, ho4, hs34, hb3⟩
          have hw3 : RowKit.Below base w w3 := hw2.trans hb3
          have hz3 : base ≤ w3.heap.size := Nat.le_trans hbw hw3.size
          have HO3 := Lib.hid ho3
          have HO4 := Lib.hid ho4
          have HSP := Lib.hid hs34
          clear ho3 ho4 hs34 hb3 HU hbr hzr
          obtain ⟨N, hN⟩ : ∃ N, cs2.length + 1 = N := ⟨_, rfl⟩
          obtain ⟨n2, hn2⟩ : ∃ n2, cs2.length = n2 := ⟨_, rfl⟩
          have hNn : N ≤ n2 + 1 := by omega
          have hNn' : n2 + 1 ≤ N := by omega
          have hnb : n2 ≤ 1000 := by omega
          have wl : IntKind.i64.wrap ((N : Int) - 1) = (n2 : Int) := by rw [IntKind.wrap_i64]; omega
          have hkn2 : (knL kn2).length = 3 * kn2.length := knL_len kn2
          have hkn2b : (knL kn2).length ≤ 3000 := by omega
          have HNN : Hid (cs2.length + 1 = N ∧ cs2.length = n2) := ⟨hN, hn2⟩
          have HAFT : Hid (∀ (v5 : Value) (w5 : World), w5.ownsRow base 51 3 v5 (n2 + 1) (flatG ceC cs2 ++ [.int .i64 a, .int .i64 (i1 : Int), .int .i64 (i2 : Int)]) → (w3.alloc (.cells #[.int .i64 a, .int .i64 (i1 : Int), .int .i64 (i2 : Int)] 51)).grownBy w5 u3.ownBlock → (v5.ownBlock = u3.ownBlock ∨ v5.ownBlock = some (w3.alloc (.cells #[.int .i64 a, .int .i64 (i1 : Int), .int .i64 (i2 : Int)] 51)).heap.size) →
              ∃ A5 c5, v5 = .slice A5 N c5 ∧ Hid (w5.ownsRow base 51 3 (.slice A5 N c5) (cs2 ++ [(⟨a, i1, i2⟩ : Ce)]).length (flatG ceC (cs2 ++ [⟨a, i1, i2⟩]))) ∧ Hid (w5.ownsRow base 3 1 u4 (knL kn2).length (flatG inC (knL kn2))) ∧ Hid (Sep (.slice A5 N c5) u4) ∧ Hid (RowKit.Below base w w5) ∧ base ≤ w5.heap.size) := fun v5 w5 h1 h2 h3 => by
            rw [← hn2] at h1
            have e : flatG ceC cs2 ++ [.int .i64 a, .int .i64 (i1 : Int), .int .i64 (i2 : Int)] = flatG ceC (cs2 ++ [⟨a, i1, i2⟩]) := by rw [flatG_append, flatG_one]; rfl
            rw [e] at h1
            obtain ⟨_, A5, c5, hv, _⟩ := own_formG ceC_ok h1
            rw [hN] at hv
            have hb5 : RowKit.Below base w w5 := (hw3.alloc hz3 _).grown h2 (by simp; omega) (fun q hq => (own_lt HO3.out hq).1)
            refine ⟨A5, c5, hv, ?_, own_oth (HO4.out.alloc _) h2 (fun b hb hq => HSP.out b hq hb), ?_, hb5, Nat.le_trans hbw hb5.size⟩
            · rw [← hv]; rw [List.length_append]; exact h1
            · rw [← hv]; exact sep_at HSP.out HO4.out (by simp) h3
          obtain ⟨i0, hi0, hz0, hz1, hz2⟩ := info_parts ce_info
          obtain ⟨j0, hj0, hy0, hy1, hy2⟩ := info_parts in_info
          have HO3' : Hid (w3.ownsRow base 51 3 u3 n2 (flatG ceC cs2)) := by rw [← hn2]; exact HO3.out
          rw [hn2] at HL2
          clear hN hn2 hkn2 HO3 HO4 HSP
          go_wp2_with (first
            | (at_builtin; refine wpList_append_own_at _ rfl (.tmp 105) (.tmp 110) 27 rfl base 51 i0 _ 3 24 Tryd.underlying27 hi0 hz0 hz1 hz2 rfl (by omega) u3 n2 (flatG ceC cs2) rfl (HO3'.out.alloc _) ⟨w3.heap.size, 0, none⟩ 1 1 [.int .i64 a, .int .i64 (i1 : Int), .int .i64 (i2 : Int)] rfl rfl (World.news_of_block (cs := #[.int .i64 a, .int .i64 (i1 : Int), .int .i64 (i2 : Int)]) (t := 51) (fr := (0, 0)) (heap_alloc_new w3 _)) (by simp [Value.oneCell']) (by unfold maxLen; omega) (by omega) (by simp; omega) ?_; intro v5 w5 hown5 hgrow5 _ hloc5; obtain ⟨A5, c5, hv5, HC5, HK5, HS5, HB5, hz5⟩ := HAFT.out v5 w5 hown5 hgrow5 hloc5; subst hv5; clear hown5 hgrow5 hloc5)
            | (at_builtin; refine wpList_append_own_at _ rfl (.tmp 112) (.tmp 118) 52 rfl base 3 j0 _ 1 8 Tryd.underlying52 hj0 hy0 hy1 hy2 rfl (by omega) u4 (knL kn2).length (flatG inC (knL kn2)) rfl (HK5.out.alloc _) ⟨w5.heap.size, 0, none⟩ 3 3 [.int .i64 (fr : Int), .int .i64 (L : Int), .int .i64 (n2 : Int)] rfl rfl (World.news_of_block (cs := #[.int .i64 (fr : Int), .int .i64 (L : Int), .int .i64 (n2 : Int)]) (t := 3) (fr := (0, 0)) (heap_alloc_new w5 _)) (by simp [Value.oneCell']) (by unfold maxLen; omega) (by omega) (by simp; omega) ?_; intro v6 w6 hown6 hgrow6 _ hloc6))
          go_ret3
          rw [HR3.out]
          have e6 : flatG inC (knL kn2) ++ [.int .i64 (fr : Int), .int .i64 (L : Int), .int .i64 (n2 : Int)] = flatG inC (knL (kn2 ++ [⟨fr, L, n2⟩])) := by rw [knL_app, flatG_append]; rfl
          rw [e6] at hown6
          have hb6 : RowKit.Below base w w6 := (HB5.out.alloc hz5 _).grown hgrow6 (by simp; omega) (fun q hq => (own_lt HK5.out hq).1)
          refine ⟨_, _, ?_, own_oth (HC5.out.alloc _) hgrow6 (fun b hb hq => HS5.out b hb hq), ?_, (sep_at HS5.out.symm HC5.out (by simp) hloc6).symm, hb6⟩
          · rw [HNN.out.2]; rfl
          · rw [HNN.out.2]; rw [knL_app, List.length_append]; rw [knL_app] at hown6; exact hown6
end Go.Proofs.YtnhcjpmamgdeoaaDoor
namespace Go.Proofs.YtnhcjpmamgdeoaaDoor
open Go.RowKit Go.Sort

def CesRet (w : World) (r : Ending) (w' : World) (xs : List Ce) : Prop :=
  ∃ A c, r = .returned (.slice A xs.length c) ∧ xs.length ≤ c ∧ c ≤ 9223372036854775807 ∧ CeSl w' w'.heap.size A xs ∧ RowKit.Below w.heap.size w w'
theorem CesRet.of_own {w w' : World} {base : Nat} {v : Value} {xs : List Ce} {n : Nat} (h : w'.ownsRow base 51 3 v n (flatG ceC xs)) (hb : RowKit.Below w.heap.size w w') : CesRet w (.returned v) w' xs := by
  obtain ⟨hn, A, c, hv, h1, h2, h3⟩ := own_formG ceC_ok h
  subst hv
  exact ⟨A, c, by rw [hn], by rw [← hn]; exact h1, h2, h3, hb⟩
theorem make_int0 (W : World) : (Instr.makeSlice 52 (.int .i64 0) (.int .i64 0)).run Tryd.prog W = .ok (.slice (some ⟨W.heap.size, 0, none⟩) 0 0) (W.alloc (.cells #[] 3)) := by kernel_rfl
set_option maxRecDepth 100000 in
set_option maxHeartbeats 6400000 in
theorem r4_DiagramOf (T : List Bool) (N : Nat) (hN : N ≤ 6) (hT : T.length = 2 ^ N) (A : Option Addr) (c : Nat) (w : World) (hs : BoSl w w.heap.size A T) :
    Calls Tryd.prog 7 #[.slice A T.length c] w fun r w' => CesRet w r w' (diaP N T) := by
  have hp1 : 1 ≤ 2 ^ N := Nat.one_le_two_pow
  have hp2 : 2 ^ N ≤ 64 := Nat.pow_le_pow_right (by omega) hN
  obtain ⟨b, o, rfl, hb, -⟩ := hs.at_ (i := 0) (by omega)
  rw [← diaQ_eq hT]
  have HL := cOf_len T N 0 0 ceBase []
  have HI := (cOf_in T N 0 0 ceBase [] (by intro e he; cases he) (by simp [ceBase]; omega) (by omega)).2
  obtain ⟨i0, hi0, hz0, hz1, hz2⟩ := info_parts ce_info
  have HC := Lib.hid (fun W (hW : RowKit.Below w.heap.size w W) v1 v2 (h1 : W.ownsRow w.heap.size 51 3 v1 ceBase.length (flatG ceC ceBase)) (h2 : W.ownsRow w.heap.size 3 1 v2 (knL []).length (flatG inC (knL []))) (h3 : Sep v1 v2) =>
    r4_cellsOf w.heap.size T b o c (by omega) N 0 0 ceBase [] v1 v2 W hN (by omega) (hs.below hW) hW.size h1 h2 h3 (by intro e he; cases he) (by simp [ceBase]; omega) (by simp; omega) (by omega) (by omega))
  rw [← hT] at HC
  have HD : Hid (diaQ N T = if (cOf T N 0 0 ceBase []).2 < 2 then (cOf T N 0 0 ceBase []).1.1 ++ [⟨-1, (cOf T N 0 0 ceBase []).2, (cOf T N 0 0 ceBase []).2⟩] else (cOf T N 0 0 ceBase []).1.1) := rfl
  generalize cOf T N 0 0 ceBase [] = P at HL HI HC HD
  obtain ⟨⟨cs, kn⟩, i⟩ := P
  simp only at HL HI HC HD
  have hcb : cs.length ≤ 1000 := by have := HL.1; simp [ceBase] at this; omega
  have HR := Lib.hid (World.ownsRow_lit (base := w.heap.size) (e := 51) (size := 3) w #[.int .i64 (-1), .int .i64 0, .int .i64 0, .int .i64 (-1), .int .i64 1, .int .i64 1] 2 (Nat.le_refl _) (by decide) rfl)
  obtain ⟨W1, hW1⟩ : ∃ W1, (w.alloc (.cells #[.int .i64 (-1), .int .i64 0, .int .i64 0, .int .i64 (-1), .int .i64 1, .int .i64 1] 51)).alloc (.cells #[] 3) = W1 := ⟨_, rfl⟩
  have HW := Lib.hid hW1
  have hbw : RowKit.Below w.heap.size w W1 := by rw [← hW1]; (repeat (first | assumption | exact Below.refl _ _ | apply Below.drew | apply below_drewN | (refine Below.alloc ?_ (by first | exact Nat.le_refl _ | omega | (simp; done) | (simp; omega)) _)))
  have HO1 : Hid (W1.ownsRow w.heap.size 51 3 (.slice (some ⟨w.heap.size, 0, none⟩) 2 2) ceBase.length (flatG ceC ceBase)) := by rw [← hW1]; exact HR.out.alloc _
  have HO2 : Hid (W1.ownsRow w.heap.size 3 1 (.slice (some ⟨w.heap.size + 1, 0, none⟩) 0 0) (knL []).length (flatG inC (knL []))) := by
    rw [← hW1]
    have h := World.ownsRow_made (base := w.heap.size) (e := 3) (size := 1) (w.alloc (.cells #[.int .i64 (-1), .int .i64 0, .int .i64 0, .int .i64 (-1), .int .i64 1, .int .i64 1] 51)) #[] 0 (by simp) (Nat.zero_le _) (by simp)
    rw [World.size_alloc] at h
    exact h
  have HSP : Hid (Sep (.slice (some ⟨w.heap.size, 0, none⟩) 2 2) (.slice (some ⟨w.heap.size + 1, 0, none⟩) 0 0)) := fun b h1 h2 => by
    simp only [Value.ownBlock, Option.some.injEq] at h1 h2
    omega
  have HCC := Lib.hid (HC.out W1 hbw _ _ HO1.out HO2.out HSP.out)
  clear hs hW1 HR HO1 HO2 HC HL hT
  by_cases hi : i < 2
  · have HD2 : Hid (diaQ N T = cs ++ [⟨-1, i, i⟩]) := by show _ = _; rw [HD.out, if_pos hi]
    rw [HD2.out]
    clear HD HD2
    have ti : (i : Int) < 2 := by omega
    have hmk := make_int0
    go_enter Tryd.func7, Tryd.ntmps7
    go_wp2_with fail
    rw [HW.out]
    refine HCC.out.mono ?_
    rintro r w2 ⟨u1, u2, rfl, ho1, -, -, hb2⟩
    have hw2 := hbw.trans hb2
    have HU := Lib.hid ho1
    have hz2' := hw2.size
    clear ho1 hb2 HCC
    go_wp2_with (at_builtin; refine wpList_append_own _ rfl (.tmp 23) (.tmp 27) 27 rfl w.heap.size 51 i0 _ 3 24 Tryd.underlying27 hi0 hz0 hz1 hz2 rfl (by omega) u1 cs.length (flatG ceC cs) rfl (HU.out.alloc _) ⟨w2.heap.size, 0, none⟩ 1 1 [.int .i64 (-1), .int .i64 (i : Int), .int .i64 (i : Int)] rfl rfl (World.news_of_block (cs := #[.int .i64 (-1), .int .i64 (i : Int), .int .i64 (i : Int)]) (t := 51) (fr := (0, 0)) (heap_alloc_new w2 _)) (by simp [Value.oneCell']) (by unfold maxLen; omega) (by omega) (by simp; omega) ?_; intro v3 w3 hown3 hgrow3 _)
    go_ret
    have e : flatG ceC cs ++ [.int .i64 (-1), .int .i64 (i : Int), .int .i64 (i : Int)] = flatG ceC (cs ++ [⟨-1, i, i⟩]) := by rw [flatG_append, flatG_one]; rfl
    rw [e] at hown3
    exact CesRet.of_own hown3 ((hw2.alloc hz2' _).grown hgrow3 (by simp; omega) (fun q hq => (own_lt HU.out hq).1))
  · have HD2 : Hid (diaQ N T = cs) := by show _ = _; rw [HD.out, if_neg hi]
    rw [HD2.out]
    clear HD HD2
    have ti : ¬ (i : Int) < 2 := by omega
    have hmk := make_int0
    go_enter Tryd.func7, Tryd.ntmps7
    go_wp2_with fail
    rw [HW.out]
    refine HCC.out.mono ?_
    rintro r w2 ⟨u1, u2, rfl, ho1, -, -, hb2⟩
    have hw2 := hbw.trans hb2
    have HU := Lib.hid ho1
    clear ho1 hb2 HCC
    go_wp2_with fail
    go_ret
    exact CesRet.of_own HU.out hw2
/-- What a formula without a fault is. -/
theorem frm_use {e : List Nd} {ss : List (List UInt8)} (h : frmErr e ss = 0) : e.length ≤ 200 ∧ (∃ f : Fm, f.Ok ∧ e = f.enc) ∧ (∀ n ∈ e, shapedT n = true) ∧ ss.length ≤ 6 := by
  have h1 := frm_ok.1 h
  exact ⟨(tree_len h1.1).1, frm_fm h, ex_shp ((tree_iff e).1 h1.1).2, (atoms_ok.1 h1.2).1⟩
theorem table_ref (e : List Nd) (ss : List (List UInt8)) (h : frmErr e ss = 0) (A : Option Addr) (c : Nat) (An : Option Addr) (cn : Nat) (w : World) (hok : NdOk e) (hsl : NdSl w w.heap.size A e) (hs : StrSl w w.heap.size An ss) :
    Calls Tryd.prog 8 #[.slice A e.length c, .slice An ss.length cn] w fun r w' => BosRet w r w' (tabB (evL e) ss) := by
  obtain ⟨hl, ⟨f, hf, he⟩, hsh, h6⟩ := frm_use h
  exact r4_TableOf e f hf he hsh hl hok A c ss An cn w h6 hsl hs
end Go.Proofs.YtnhcjpmamgdeoaaDoor
