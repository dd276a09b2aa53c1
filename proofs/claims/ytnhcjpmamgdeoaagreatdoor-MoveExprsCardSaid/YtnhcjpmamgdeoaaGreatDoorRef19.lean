/-
  THE WALK of the reference: the places of a node's parts.
-/
import Derived.Test.YtnhcjpmamgdeoaaGreatDoorRef5
import Derived.Test.YtnhcjpmamgdeoaaGreatDoorMvQ
import Derived.Test.YtnhcjpmamgdeoaaGreatDoorOff
import Derived.Maps.AppendAt
namespace Go.Proofs.YtnhcjpmamgdeoaaGreatDoor
open Go.RowKit Go.Sort

def inC (b : Nat) : List Value := [.int .i64 (b : Int)]
theorem inC_ok : EncOk inC 1 := ⟨fun _ => rfl, by omega, fun x u hu => by
  simp only [inC, List.mem_cons, List.not_mem_nil, or_false] at hu
  subst hu; rfl⟩
abbrev InSl := SlG inC 1
theorem in_info : (Tryz.prog.info? 3).map (fun i => (i.zero, i.size, i.bytes)) = some (some (.int .i64 0), 1, 8) := by kernel_rfl
theorem inSl_at {w : World} {B : Nat} {A : Option Addr} {xs : List Nat} (h : InSl w B A xs) {i : Nat} {x : Nat} (hx : xs[i]? = some x) : ∃ b o, A = some ⟨b, o, none⟩ ∧ b < B ∧ w.cell? ⟨b, o + i, none⟩ = some (.int .i64 (x : Int)) := by
  obtain ⟨b, o, h1, h2, h3⟩ := h.at_ (List.getElem?_eq_some_iff.1 hx).1
  have := h3 i x hx 0 _ rfl
  rw [Nat.mul_one, Nat.add_zero] at this
  exact ⟨b, o, h1, h2, this⟩
def IntsRet (w : World) (r : Ending) (w' : World) (xs : List Nat) : Prop :=
  ∃ A c, r = .returned (.slice A xs.length c) ∧ xs.length ≤ c ∧ c ≤ 9223372036854775807 ∧ InSl w' w'.heap.size A xs ∧ RowKit.Below w.heap.size w w'
/-- Where the parts begin (behind a Field), and where the last one ends. -/
def startsGo (r : Bool) : Nat → List (List Nd) → List Nat
  | a, [] => [a]
  | a, p :: ps => (if r = true then a + 1 else a) :: startsGo r (a + p.length) ps
theorem starts_len (r : Bool) : ∀ (ps : List (List Nd)) (a : Nat), (startsGo r a ps).length = ps.length + 1
  | [], _ => rfl
  | p :: ps, a => by rw [startsGo, List.length_cons, starts_len r ps, List.length_cons]
theorem starts_get (r : Bool) : ∀ (ps : List (List Nd)) (a k : Nat), k < ps.length → (startsGo r a ps)[k]? = some ((if r = true then 1 else 0) + (a + (ps.take k).flatten.length))
  | p :: ps, a, 0, _ => by cases r <;> simp [startsGo]; omega
  | p :: ps, a, k + 1, h => by
    rw [startsGo, List.getElem?_cons_succ, starts_get r ps _ k (by simpa using h), List.take_succ_cons, List.flatten_cons, List.length_append]
    congr 2
    omega
theorem starts_last (r : Bool) : ∀ (ps : List (List Nd)) (a : Nat), (startsGo r a ps)[ps.length]? = some (a + ps.flatten.length)
  | [], a => by simp [startsGo]
  | p :: ps, a => by
    rw [startsGo, List.length_cons, List.getElem?_cons_succ, starts_last r ps, List.flatten_cons, List.length_append]
    congr 1
    omega
/-- What is known of a node's pieces in a list. -/
structure NdAtE (e : List Nd) (i : Nat) (x : Nd) (ps : List (List Nd)) : Prop where
  pre : ∃ a b, e = a ++ (x :: ps.flatten) ++ b ∧ a.length = i
  ex : ∀ p ∈ ps, Ex (.one (x.op == 6)) p
  cnt : ndParts x = ps.length
theorem NdAtE.get {e : List Nd} {i : Nat} {x : Nd} {ps : List (List Nd)} (h : NdAtE e i x ps) : e[i]? = some x := by
  obtain ⟨a, b, rfl, rfl⟩ := h.pre
  simp
theorem NdAtE.len {e : List Nd} {i : Nat} {x : Nd} {ps : List (List Nd)} (h : NdAtE e i x ps) : i + 1 + ps.flatten.length ≤ e.length := by
  obtain ⟨a, b, rfl, rfl⟩ := h.pre
  simp; omega
theorem NdAtE.beh {e : List Nd} {i : Nat} {x : Nd} {ps : List (List Nd)} (h : NdAtE e i x ps) {k : Nat} {p : List Nd} (hp : ps[k]? = some p) :
    behV e (((if (x.op == 6) = true then 1 else 0) + (i + 1 + (ps.take k).flatten.length) : Nat) : Int) = ((i + 1 + (ps.take (k + 1)).flatten.length : Nat) : Int) := by
  have hpm := List.mem_of_getElem? hp
  have hex := h.ex p hpm
  have hl := h.len
  obtain ⟨a, b, rfl, rfl⟩ := h.pre
  have hle := flat_take_le ps (k + 1)
  rw [flat_step hp] at hle ⊢
  have hsp := flat_split hp
  rw [behV_nat]
  cases h6 : (x.op == 6) with
  | false =>
    rw [h6] at hex
    have hb := bGo_of_ex hex (a ++ x :: (ps.take k).flatten) ((ps.drop (k + 1)).flatten ++ b) (2 * p.length) (by simp)
    have e1 : a ++ x :: (ps.take k).flatten ++ p ++ ((ps.drop (k + 1)).flatten ++ b) = a ++ x :: ps.flatten ++ b := by rw [hsp]; simp
    rw [e1] at hb
    have hlen : (a ++ x :: (ps.take k).flatten).length = a.length + 1 + (ps.take k).flatten.length := by simp; omega
    rw [hlen] at hb
    simp only [Bool.false_eq_true, if_false, Nat.zero_add]
    rw [bR_of hb (by omega)]
    show ((_ : Nat) : Int) = _
    omega
  | true =>
    rw [h6] at hex
    obtain ⟨f, v, rfl, hsf, h7⟩ := ex_ne hex
    have hv : ∃ v1 vr, v = v1 :: vr ∧ Ex (.one false) v := by
      cases hex with
      | one n body fld hs h7' hb =>
        have hn : ndParts f = 1 := by have : f.op = 7 := by simpa using h7
                                      simp [ndParts, this]
        have hn6 : (f.op == 6) = false := by have : f.op = 7 := by simpa using h7
                                             simp [this]
        rw [hn, hn6] at hb
        obtain ⟨qs, q1, q2, q3⟩ := ex_pieces hb
        match qs, q1, q3 with
        | [q], _, q3 =>
          simp at q2
          subst q2
          have := q3.1
          obtain ⟨y, r, e, _⟩ := ex_ne this
          exact ⟨y, r, e, this⟩
    obtain ⟨v1, vr, _, hexv⟩ := hv
    have hb := bGo_of_ex hexv (a ++ x :: (ps.take k).flatten ++ [f]) ((ps.drop (k + 1)).flatten ++ b) (2 * v.length) (by simp)
    have e1 : a ++ x :: (ps.take k).flatten ++ [f] ++ v ++ ((ps.drop (k + 1)).flatten ++ b) = a ++ x :: ps.flatten ++ b := by rw [hsp]; simp
    rw [e1] at hb
    have hlen : (a ++ x :: (ps.take k).flatten ++ [f]).length = 1 + (a.length + 1 + (ps.take k).flatten.length) := by simp; omega
    rw [hlen] at hb
    simp only [if_true]
    rw [List.length_cons] at hle ⊢
    rw [bR_of hb (by omega)]
    show ((_ : Nat) : Int) = _
    omega
/-- A node in a box, whole. -/
structure PBox (x : Nd) (b : Nat) (W : World) : Prop where
  c0 : W.cell? ⟨b, 0, none⟩ = some (.int .i64 x.op)
  c1 : W.cell? ⟨b, 1, none⟩ = some (.int .i64 x.n)
  c2 : W.cell? ⟨b, 2, none⟩ = some (.string x.s)
  c3 : W.cell? ⟨b, 3, none⟩ = some (.string x.t)
  lt : b < W.heap.size
theorem PBox.later' {x : Nd} {b B : Nat} {W W' : World} (h : PBox x b W) (hb : RowKit.Below B W W') (hl : b < B) : PBox x b W' :=
  ⟨(hb.cell (p := ⟨b, 0, none⟩) hl).trans h.c0, (hb.cell (p := ⟨b, 1, none⟩) hl).trans h.c1, (hb.cell (p := ⟨b, 2, none⟩) hl).trans h.c2, (hb.cell (p := ⟨b, 3, none⟩) hl).trans h.c3, Nat.lt_of_lt_of_le h.lt hb.size⟩
theorem PBox.later {x : Nd} {b : Nat} {W W' : World} (h : PBox x b W) (hb : RowKit.Below W.heap.size W W') : PBox x b W' := h.later' hb h.lt
theorem PBox.new (x : Nd) (w : World) : PBox x w.heap.size (w.alloc (.cells #[.int .i64 x.op, .int .i64 x.n, .string x.s, .string x.t] 40)) := by
  have h := Blk.new w 40 #[.int .i64 x.op, .int .i64 x.n, .string x.s, .string x.t]
  exact ⟨h.cell 0, h.cell 1, h.cell 2, h.cell 3, by simp⟩
set_option maxRecDepth 100000 in
set_option maxHeartbeats 6400000 in
theorem r3_PartsOf (e : List Nd) (i : Nat) (x : Nd) (ps : List (List Nd)) (A : Option Addr) (c : Nat) (w : World) (hE : NdAtE e i x ps) (hl : e.length ≤ 200) (hok : NdOk e) (hsl : NdSl w w.heap.size A e) :
    Calls Tryz.prog 55 #[.slice A e.length c, .int .i64 i] w fun r w' => IntsRet w r w' (startsGo (x.op == 6) (i + 1) ps) := by
  obtain ⟨i0, hi, hz0, hz1, hz2⟩ := info_parts in_info
  have hx := hE.get
  have hil : i < e.length := (List.getElem?_eq_some_iff.1 hx).1
  have HBH := Lib.hid (fun k p (hp : ps[k]? = some p) => hE.beh hp)
  have HBE := Lib.hid (fun j W (hW : RowKit.Below w.heap.size w W) => r2_Behind e _ j A c W (Nat.le_refl _) hl hok ((hsl.below hW).more hW.size))
  have hlen := hE.len
  have HP := Lib.hid (fun W => r2_Parts x.op x.n x.s x.t W)
  rw [show ndParts ⟨x.op, x.n, x.s, x.t⟩ = (ps.length : Int) from hE.cnt] at HP
  have hpl : ps.length ≤ ps.flatten.length := by
    have hne : ∀ p ∈ ps, p ≠ [] := fun p hp => by obtain ⟨y, r, e, _⟩ := ex_ne (hE.ex p hp); rw [e]; simp
    clear HBH HBE HP hE hlen
    induction ps with
    | nil => simp
    | cons p r ih =>
      have h2 := ih fun q hq => hne q (by simp [hq])
      have h3 := List.length_pos_iff.2 (hne p (by simp))
      rw [List.flatten_cons, List.length_append, List.length_cons]; omega
  obtain ⟨b, o, rfl, hb, hcs⟩ := hsl.at_ hil
  obtain ⟨d0, d1, d2, d3⟩ := hcs i x hx
  obtain ⟨S, hS⟩ : ∃ S, startsGo (x.op == 6) (i + 1) ps = S := ⟨_, rfl⟩
  have HSL : Hid (S.length = ps.length + 1) := by show _ = _; rw [← hS, starts_len]
  have HSG : Hid (∀ k, k < ps.length → S[k]? = some ((if (x.op == 6) = true then 1 else 0) + (i + 1 + (ps.take k).flatten.length))) := fun k hk => by rw [← hS]; exact starts_get _ ps _ k hk
  have HSE : Hid (S[ps.length]? = some (i + 1 + ps.flatten.length)) := by show _ = _; rw [← hS]; exact starts_last _ ps _
  rw [hS]
  clear hcs hsl hok hx hE hS
  have dd : decide (e.length ≤ i) = false := by simp; omega
  have ws : IntKind.i64.wrap ((i : Int) + 1) = (i : Int) + 1 := by rw [IntKind.wrap_i64]; omega
  go_enter Tryz.func55, Tryz.ntmps55
  go_wp2_with fail
  obtain ⟨W1, hW1e⟩ : ∃ W1, w.alloc (.cells #[.int .i64 x.op, .int .i64 x.n, .string x.s, .string x.t] 40) = W1 := ⟨_, rfl⟩
  have hW1 : RowKit.Below w.heap.size w W1 := by rw [← hW1e]; (repeat (first | assumption | exact Below.refl _ _ | apply Below.drew | apply below_drewN | (refine Below.alloc ?_ (by first | exact Nat.le_refl _ | omega | (simp; done) | (simp; omega)) _)))
  have hWz : W1.heap.size = w.heap.size + 1 := by rw [← hW1e]; simp
  have HX : Hid (PBox x w.heap.size W1) := by rw [← hW1e]; exact PBox.new x w
  have HOW : Hid ((W1.alloc (.cells #[] 3)).ownsRow W1.heap.size 3 1 (.slice (some ⟨W1.heap.size, 0, none⟩) 0 0) 0 []) := World.ownsRow_made W1 #[] 0 (Nat.le_refl _) (Nat.zero_le _) (by simp)
  have hWa : RowKit.Below W1.heap.size W1 (W1.alloc (.cells #[] 3)) := by (repeat (first | assumption | exact Below.refl _ _ | apply Below.drew | apply below_drewN | (refine Below.alloc ?_ (by first | exact Nat.le_refl _ | omega | (simp; done) | (simp; omega)) _)))
  try rw [hW1e]
  rw [← hWz]
  have hWl : w.heap.size < W1.heap.size := by omega
  clear hW1e d0 d1 d2 d3 ws hWz
  go_loopw [1, 6, 7] (fun av ov iv wr => ∃ (k a : Nat), iv = .int .i64 k ∧ av = .int .i64 a ∧ k ≤ ps.length ∧ a ≤ e.length ∧ Hid (a = i + 1 + (ps.take k).flatten.length) ∧ Hid (wr.ownsRow W1.heap.size 3 1 ov k (flatG inC (S.take k))) ∧ RowKit.Below W1.heap.size W1 wr) (fun _ _ iv => fun _ => ps.length - (intOf iv).toNat)
  case atStart => exact ⟨0, i + 1, rfl, by go_num, by omega, by omega, by simp [Hid], by simpa [flatG, Hid] using HOW.out, hWa⟩
  case round =>
    obtain ⟨k, a, rfl, rfl, hk, ha, HA, HOr, hbr⟩ := hrel
    have hzr := hbr.size
    have HXr := Lib.hid (HX.out.later' hbr (by omega))
    obtain ⟨g0, g1, g2, g3, hlr⟩ := HXr.out
    by_cases hlt : k < ps.length
    · obtain ⟨p, hp⟩ : ∃ p, ps[k]? = some p := ⟨_, List.getElem?_eq_getElem hlt⟩
      cases h6 : (x.op == 6) with
      | false =>
        have HST : Hid (S.take (k + 1) = S.take k ++ [a]) := by
          show _ = _
          rw [List.take_add_one, HSG.out k hlt, HA.out, h6]
          simp
          
        have HBV : Hid (behV e (a : Int) = ((a + p.length : Nat) : Int)) := by
          have h := HBH.out k p hp
          rw [h6] at h
          simp only [Bool.false_eq_true, if_false, Nat.zero_add] at h
          rw [flat_step hp] at h
          show _ = _
          rw [HA.out]
          
          rw [h]
          congr 1
          omega
        have ha2 : a + p.length ≤ e.length := by
          have h1 := flat_take_le ps (k + 1)
          rw [flat_step hp] at h1
          have := HA.out
          omega
        have HA2 : Hid (a + p.length = i + 1 + (ps.take (k + 1)).flatten.length) := by show _ = _; rw [flat_step hp, HA.out]; omega
        
        generalize a + p.length = a2 at HBV ha2 HA2
        clear hp
        go_wp2_with fail
        refine (HP.out _).mono ?_
        rintro r w2 ⟨rfl, hb2⟩
        have HX2 := Lib.hid (HXr.out.later hb2)
        have c0 := HX2.out.c0
        have hw2 : RowKit.Below W1.heap.size W1 w2 := hbr.trans (hb2.mono hzr)
        have hz2' := hw2.size
        clear g0 g1 g2 g3
        go_wp2_with (at_builtin; refine wpList_append_own _ rfl (.tmp 26) (.tmp 28) 102 rfl W1.heap.size 3 i0 _ 1 8 Tryz.underlying102 hi hz0 hz1 hz2 rfl (by omega) _ k (flatG inC (S.take k)) rfl (own_keep (own_keep HOr.out hb2) (by (repeat (first | assumption | exact Below.refl _ _ | apply Below.drew | apply below_drewN | (refine Below.alloc ?_ (by first | exact Nat.le_refl _ | omega | (simp; done) | (simp; omega)) _))))) ⟨w2.heap.size, 0, none⟩ 1 1 [.int .i64 (a : Int)] rfl rfl (cell_one_new _ _ _) (by simp [Value.oneCell']) (by unfold maxLen; omega) (by omega) (by simp; omega) ?_; intro v3 w3 hown3 hgrow3 _)
        have hb3 : RowKit.Below W1.heap.size W1 w3 := (hw2.alloc hw2.size _).grown hgrow3 (by simp; omega) (fun q hq => (own_lt HOr.out hq).1)
        have hw3 : RowKit.Below w.heap.size w w3 := hW1.trans (hb3.mono hW1.size)
        have HO3 : Hid (w3.ownsRow W1.heap.size 3 1 v3 (k + 1) (flatG inC (S.take (k + 1)))) := by
          show World.ownsRow _ _ _ _ _ _ _
          rw [HST.out, flatG_append, flatG_one]
          exact hown3
        clear hb2 hown3 hgrow3 c0 HOr
        go_wp2_with fail
        refine (HBE.out _ _ hw3).mono ?_
        rintro r w4 ⟨rfl, hb4⟩
        rw [HBV.out]
        have HO4 := Lib.hid (own_keep HO3.out hb4)
        have hw4 : RowKit.Below W1.heap.size W1 w4 := hb3.trans (hb4.mono hb3.size)
        clear hb4
        go_wp2_with fail
        exact ⟨⟨k + 1, a2, by go_num, rfl, by omega, ha2, HA2, HO4.out, hw4⟩, by simp [intOf]; omega⟩
      | true =>
        have HST : Hid (S.take (k + 1) = S.take k ++ [(a + 1)]) := by
          show _ = _
          rw [List.take_add_one, HSG.out k hlt, HA.out, h6]
          simp
          omega
        have HBV : Hid (behV e ((a : Int) + 1) = ((a + p.length : Nat) : Int)) := by
          have h := HBH.out k p hp
          rw [h6] at h
          simp only [if_true] at h
          rw [flat_step hp] at h
          show _ = _
          rw [HA.out]
          rw [show ((1 + (i + 1 + (ps.take k).flatten.length) : Nat) : Int) = ((i + 1 + (ps.take k).flatten.length : Nat) : Int) + 1 from by omega] at h
          rw [h]
          congr 1
          omega
        have ha2 : a + p.length ≤ e.length := by
          have h1 := flat_take_le ps (k + 1)
          rw [flat_step hp] at h1
          have := HA.out
          omega
        have HA2 : Hid (a + p.length = i + 1 + (ps.take (k + 1)).flatten.length) := by show _ = _; rw [flat_step hp, HA.out]; omega
        have ws : IntKind.i64.wrap ((a : Int) + 1) = (a : Int) + 1 := by rw [IntKind.wrap_i64]; omega
        generalize a + p.length = a2 at HBV ha2 HA2
        clear hp
        go_wp2_with fail
        refine (HP.out _).mono ?_
        rintro r w2 ⟨rfl, hb2⟩
        have HX2 := Lib.hid (HXr.out.later hb2)
        have c0 := HX2.out.c0
        have hw2 : RowKit.Below W1.heap.size W1 w2 := hbr.trans (hb2.mono hzr)
        have hz2' := hw2.size
        clear g0 g1 g2 g3
        go_wp2_with (at_builtin; refine wpList_append_own _ rfl (.tmp 26) (.tmp 28) 102 rfl W1.heap.size 3 i0 _ 1 8 Tryz.underlying102 hi hz0 hz1 hz2 rfl (by omega) _ k (flatG inC (S.take k)) rfl (own_keep (own_keep HOr.out hb2) (by (repeat (first | assumption | exact Below.refl _ _ | apply Below.drew | apply below_drewN | (refine Below.alloc ?_ (by first | exact Nat.le_refl _ | omega | (simp; done) | (simp; omega)) _))))) ⟨w2.heap.size, 0, none⟩ 1 1 [.int .i64 ((a : Int) + 1)] rfl rfl (cell_one_new _ _ _) (by simp [Value.oneCell']) (by unfold maxLen; omega) (by omega) (by simp; omega) ?_; intro v3 w3 hown3 hgrow3 _)
        have hb3 : RowKit.Below W1.heap.size W1 w3 := (hw2.alloc hw2.size _).grown hgrow3 (by simp; omega) (fun q hq => (own_lt HOr.out hq).1)
        have hw3 : RowKit.Below w.heap.size w w3 := hW1.trans (hb3.mono hW1.size)
        have HO3 : Hid (w3.ownsRow W1.heap.size 3 1 v3 (k + 1) (flatG inC (S.take (k + 1)))) := by
          show World.ownsRow _ _ _ _ _ _ _
          rw [HST.out, flatG_append, flatG_one]
          exact hown3
        clear hb2 hown3 hgrow3 c0 HOr
        go_wp2_with fail
        refine (HBE.out _ _ hw3).mono ?_
        rintro r w4 ⟨rfl, hb4⟩
        rw [HBV.out]
        have HO4 := Lib.hid (own_keep HO3.out hb4)
        have hw4 : RowKit.Below W1.heap.size W1 w4 := hb3.trans (hb4.mono hb3.size)
        clear hb4
        go_wp2_with fail
        exact ⟨⟨k + 1, a2, by go_num, rfl, by omega, ha2, HA2, HO4.out, hw4⟩, by simp [intOf]; omega⟩
    · have hkp : k = ps.length := by omega
      have HST : Hid (S = S.take k ++ [a]) := by
        show _ = _
        have h1 : S.take (k + 1) = S := List.take_of_length_le (by rw [HSL.out, hkp]; exact Nat.le_refl _)
        conv => lhs; rw [← h1, List.take_add_one, hkp, HSE.out]
        rw [HA.out, hkp, List.take_of_length_le (Nat.le_refl ps.length)]
        rfl
      have hnl : ¬ (k < ps.length) := hlt
      go_wp2_with fail
      refine (HP.out _).mono ?_
      rintro r w2 ⟨rfl, hb2⟩
      have hw2 : RowKit.Below W1.heap.size W1 w2 := hbr.trans (hb2.mono hzr)
      have hz2' := hw2.size
      clear g0 g1 g2 g3
      go_wp2_with (at_builtin; refine wpList_append_own _ rfl (.tmp 33) (.tmp 35) 102 rfl W1.heap.size 3 i0 _ 1 8 Tryz.underlying102 hi hz0 hz1 hz2 rfl (by omega) _ k (flatG inC (S.take k)) rfl (own_keep (own_keep HOr.out hb2) (by (repeat (first | assumption | exact Below.refl _ _ | apply Below.drew | apply below_drewN | (refine Below.alloc ?_ (by first | exact Nat.le_refl _ | omega | (simp; done) | (simp; omega)) _))))) ⟨w2.heap.size, 0, none⟩ 1 1 [.int .i64 (a : Int)] rfl rfl (cell_one_new _ _ _) (by simp [Value.oneCell']) (by unfold maxLen; omega) (by omega) (by simp; omega) ?_; intro v3 w3 hown3 hgrow3 _)
      have hb3 : RowKit.Below W1.heap.size W1 w3 := (hw2.alloc hw2.size _).grown hgrow3 (by simp; omega) (fun q hq => (own_lt HOr.out hq).1)
      have hw3 : RowKit.Below w.heap.size w w3 := hW1.trans (hb3.mono hW1.size)
      have HO3 : Hid (w3.ownsRow W1.heap.size 3 1 v3 (k + 1) (flatG inC S)) := by
        show World.ownsRow _ _ _ _ _ _ _
        rw [HST.out, flatG_append, flatG_one]
        exact hown3
      obtain ⟨hln, Ao, co, hv, hco, hcm, hso⟩ := own_formG inC_ok HO3.out
      subst hv
      have HSO := Lib.hid hso
      clear hb2 hown3 hgrow3 HOr hso
      go_wp2_with fail
      go_ret
      have hSl : k + 1 = S.length := by rw [HSL.out, hkp]
      rw [hSl] at hco ⊢
      exact ⟨Ao, co, rfl, hco, hcm, HSO.out, hw3⟩
end Go.Proofs.YtnhcjpmamgdeoaaGreatDoor
