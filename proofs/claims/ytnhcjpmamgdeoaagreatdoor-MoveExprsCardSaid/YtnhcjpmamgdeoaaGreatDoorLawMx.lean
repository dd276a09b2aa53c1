/-
  THE WALK of the reference: moved, whole; MovedExpr.
  THE WALK of the reference: MovedExpr.
  THE WALK of the law MoveExprs.
-/
import Derived.Test.YtnhcjpmamgdeoaaGreatDoorRef24
import Derived.Test.YtnhcjpmamgdeoaaGreatDoorRef23
import Derived.Test.YtnhcjpmamgdeoaaGreatDoorMvN
import Derived.Test.YtnhcjpmamgdeoaaGreatDoorMvH
import Derived.Test.YtnhcjpmamgdeoaaGreatDoorMvR
import Derived.Test.YtnhcjpmamgdeoaaGreatDoorTold
import Derived.Deep.RegionHeld3
namespace Go.Proofs.YtnhcjpmamgdeoaaGreatDoor
open Go.RowKit Go.Sort

def GoodM (vals : Bool) (xs : List Nd) : Prop := Ex (.one false) xs ∧ (vals = true → Vx xs)
structure CutM (vals : Bool) (n : Nd) (ps : List (List Nd)) : Prop where
  cnt : ndParts n = ps.length
  ex : ∀ p ∈ ps, Ex (.one (n.op == 6)) p
  oth : ¬ n.op = 6 → ∀ p ∈ ps, GoodM vals p
  rcd : n.op = 6 → ∀ p ∈ ps, ∃ f v, p = f :: v ∧ f.op = 7 ∧ GoodM vals v
theorem fld_splitM {p : List Nd} (h : Ex (.one true) p) : ∃ f v, p = f :: v ∧ f.op = 7 ∧ Ex (.one false) v := by
  cases h with
  | one f body _ hs h7 hb =>
    have h7' : f.op = 7 := by simpa using h7
    have hp : ndParts f = 1 := by simp [ndParts, h7']
    rw [hp, show (f.op == 6) = false from by simp [h7']] at hb
    obtain ⟨ps, h1, h2, h3⟩ := ex_pieces hb
    match ps, h1, h3 with
    | [v], _, h3 => exact ⟨f, body, rfl, h7', by rw [h2]; simpa using h3.1⟩
theorem cut_exM {xs : List Nd} (h : Ex (.one false) xs) : ∃ (n : Nd) (ps : List (List Nd)), xs = n :: ps.flatten ∧ ndParts n = (ps.length : Int) ∧ ∀ p ∈ ps, Ex (.one (n.op == 6)) p := by
  have hpar := ex_par h
  cases h with
  | one n body _ hs h7 hb =>
    obtain ⟨ps, h1, h2, h3⟩ := ex_pieces hb
    have := hpar n (by simp)
    exact ⟨n, ps, by rw [h2], by omega, exk_all h3⟩
theorem good_cutM {vals : Bool} {xs : List Nd} (h : GoodM vals xs) : ∃ (n : Nd) (ps : List (List Nd)), xs = n :: ps.flatten ∧ CutM vals n ps := by
  cases vals with
  | false =>
    obtain ⟨n, ps, h1, h2, h3⟩ := cut_exM h.1
    refine ⟨n, ps, h1, h2, h3, fun h6 p hp => ⟨by have := h3 p hp; rwa [show (n.op == 6) = false from by simp [h6]] at this, fun h => by cases h⟩, fun h6 p hp => ?_⟩
    have := h3 p hp
    rw [show (n.op == 6) = true from by simp [h6]] at this
    obtain ⟨f, v, e1, e2, e3⟩ := fld_splitM this
    exact ⟨f, v, e1, e2, e3, fun h => by cases h⟩
  | true =>
    have hv := h.2 rfl
    cases hv with
    | leaf n hs h5 h6 h7 =>
      obtain ⟨n', ps, h1, h2, h3⟩ := cut_exM h.1
      injection h1 with h1 h1'
      subst h1
      have hps : ps = [] := by
        cases ps with
        | nil => rfl
        | cons p r =>
          obtain ⟨x, y, e, _⟩ := ex_ne (h3 p (by simp))
          rw [e] at h1'; simp at h1'
      subst hps
      exact ⟨n, [], rfl, h2, by simp, fun _ p hp => by simp at hp, fun _ p hp => by simp at hp⟩
    | set n ps hs h5 hn hv hc =>
      have h6 : (n.op == 6) = false := by simp [h5]
      refine ⟨n, ps, rfl, by simp [ndParts, h5, hn], fun p hp => by rw [h6]; exact vx_ex (hv p hp), fun _ p hp => ⟨vx_ex (hv p hp), fun _ => hv p hp⟩, fun h => by omega⟩
    | rcd n ps hs h6 hn h1 h2 h3 hc =>
      refine ⟨n, ps, rfl, by simp [ndParts, h6, hn], fun p hp => ?_, fun h => absurd h6 h, fun _ p hp => ?_⟩
      · rw [show (n.op == 6) = true from by simp [h6]]
        obtain ⟨f, v, rfl⟩ := h1 p hp
        exact fx_ex (h2 f v hp).1 (h2 f v hp).2 (vx_ex (h3 f v hp))
      · obtain ⟨f, v, rfl⟩ := h1 p hp
        exact ⟨f, v, rfl, (h2 f v hp).1, vx_ex (h3 f v hp), fun _ => h3 f v hp⟩
theorem good_out {m : Mv} (hm : mvErr m = 0) {vals : Bool} {xs q : List Nd} (h : GoodM vals xs) (hl : xs.length ≤ 200) {k : Nat} (hk : xs.length ≤ k) (hq : movGo m vals k xs = some q) : GoodM vals q ∧ q.length ≤ xs.length := by
  cases vals with
  | false =>
    rcases ex_mov hm xs.length xs false (Nat.le_refl _) h.1 k hk with h1 | ⟨ys, h1, h2, h3⟩
    · rw [hq] at h1; cases h1
    · rw [hq] at h1; injection h1 with h1; subst h1
      exact ⟨⟨h2, fun h => by cases h⟩, h3⟩
  | true =>
    rcases vx_mov hm (h.2 rfl) hl k hk with h1 | ⟨ys, h1, h2, h3⟩
    · rw [hq] at h1; cases h1
    · rw [hq] at h1; injection h1 with h1; subst h1
      exact ⟨⟨vx_ex h2, fun _ => h2⟩, h3⟩
theorem mv_what {m : Mv} (hm : mvErr m = 0) : m.what = 1 ∨ m.what = 2 := by
  unfold mvErr at hm
  split at hm
  · cases hm
  · rename_i h; omega
theorem take_splitM {ps : List (List Nd)} {j : Nat} {p : List Nd} (hp : ps[j]? = some p) : ps = ps.take j ++ p :: ps.drop (j + 1) := by
  obtain ⟨h1, h2⟩ := List.getElem?_eq_some_iff.1 hp
  conv => lhs; rw [← List.take_append_drop j ps]
  rw [List.drop_eq_getElem_cons h1, h2]
theorem flat_splitM {ps : List (List Nd)} {j : Nat} {p : List Nd} (hp : ps[j]? = some p) : ps.flatten = (ps.take j).flatten ++ (p ++ (ps.drop (j + 1)).flatten) := by
  conv => lhs; rw [take_splitM hp]
  rw [List.flatten_append, List.flatten_cons]
theorem moved_all (m : Mv) (vals : Bool) (e : List Nd) (hm : mvErr m = 0) (hz : MvZ m) (hl : e.length ≤ 200) (hok : NdOk e) : ∀ (N : Nat) (xs : List Nd), xs.length ≤ N → GoodM vals xs → ∀ (a b : List Nd) (i : Nat), e = a ++ xs ++ b → a.length = i → ∀ k, xs.length ≤ k → MovedR m vals e k i xs
  | 0, xs, hN, hg, a, b, i, he, hi, k, hk => by
    obtain ⟨x, y, e, _⟩ := ex_ne hg.1
    rw [e] at hN; simp at hN
  | N + 1, xs, hN, hg, a, b, i, he, hi, k, hk => by
    obtain ⟨n, ps, hxs, hc⟩ := good_cutM hg
    have hxl : xs.length ≤ 200 := by
      have := congrArg List.length he
      simp only [List.length_append] at this
      omega
    subst hxs
    have hlen : (n :: ps.flatten).length = ps.flatten.length + 1 := by simp
    have hat : NdAtE e i n ps := ⟨⟨a, b, by rw [he], hi⟩, hc.ex, hc.cnt⟩
    have hpl : ∀ j p, ps[j]? = some p → (ps.take j).flatten.length + p.length ≤ ps.flatten.length := fun j p hp => by
      have := congrArg List.length (flat_splitM hp)
      simp only [List.length_append] at this
      omega
    by_cases h6 : n.op = 6
    · have e6 : (n.op == 6) = true := by simp [h6]
      -- fuel: a record takes two rounds
      have hfuel : ∃ k2, movGo m vals k (n :: ps.flatten) = movGo m vals (k2 + 2) (n :: ps.flatten) ∧ ∀ p ∈ ps, p.length ≤ k2 + 1 := by
        by_cases hps : ps = []
        · subst hps
          refine ⟨0, ?_, fun p hp => by simp at hp⟩
          match k, hk with
          | k + 1, _ => rw [movGo_any m vals k n (ps := []) (by simp), movGo_any m vals 1 n (ps := []) (by simp)]; rfl
        · obtain ⟨p0, r0, hp0⟩ := List.exists_cons_of_ne_nil hps
          have h1 : 1 ≤ ps.flatten.length := by
            obtain ⟨x, y, e, _⟩ := ex_ne (hc.ex p0 (by rw [hp0]; simp))
            rw [hp0, List.flatten_cons, e]; simp
          refine ⟨k - 2, by rw [show k - 2 + 2 = k from by omega], fun p hp => ?_⟩
          obtain ⟨j, hj⟩ := List.getElem?_of_mem hp
          have := hpl j p hj
          omega
      obtain ⟨k2, hk2, hpk⟩ := hfuel
      have hex : ∀ p ∈ ps, ∃ f v, p = f :: v ∧ f.op = 7 ∧ ∃ b, Ex (.one b) v := fun p hp => by
        obtain ⟨f, v, e1, e2, e3⟩ := hc.rcd h6 p hp
        exact ⟨f, v, e1, e2, false, e3.1⟩
      have hR : Rcs m vals k2 e i n ps := by
        refine ⟨hat, hl, hok, mv_what hm, hz, fun j p hp => ?_, fun p hp q hq => ?_⟩
        · obtain ⟨f, v, rfl, h7, hv⟩ := hc.rcd h6 p (List.mem_of_getElem? hp)
          have h1 := hpl j _ hp
          have h2 := hpk _ (List.mem_of_getElem? hp)
          simp only [List.length_cons] at h1 h2 hN
          rw [e6]
          refine moved_all m vals e hm hz hl hok N v (by omega) hv (a ++ n :: ((ps.take j).flatten ++ [f])) ((ps.drop (j + 1)).flatten ++ b) _ ?_ ?_ k2 (by omega)
          · rw [he, flat_splitM hp]; simp
          · unfold startE; simp; omega
        · obtain ⟨f, v, rfl, h7, hv⟩ := hc.rcd h6 p hp
          rw [e6] at hq
          have h2 := hpk _ hp
          obtain ⟨j, hj⟩ := List.getElem?_of_mem hp
          have h1 := hpl j _ hj
          simp only [List.length_cons] at h1 h2 hxl
          obtain ⟨g1, g2⟩ := good_out hm hv (by omega) (k := k2) (by omega) hq
          exact ⟨⟨false, g1.1⟩, by simp only [List.length_cons]; omega⟩
      intro w A c hc' hcm hsl
      rw [hk2]
      exact md_rec m vals k2 e i n ps hR h6 hex w A c hc' hcm hsl
    · have e6 : (n.op == 6) = false := by simp [h6]
      obtain ⟨k1, rfl⟩ : ∃ k1, k = k1 + 1 := ⟨k - 1, by omega⟩
      have hex : ∀ p ∈ ps, ∃ b, Ex (.one b) p := fun p hp => ⟨_, hc.ex p hp⟩
      have hR : Rcs m vals k1 e i n ps := by
        refine ⟨hat, hl, hok, mv_what hm, hz, fun j p hp => ?_, fun p hp q hq => ?_⟩
        · have h1 := hpl j _ hp
          simp only [List.length_cons] at hN hk
          rw [e6]
          refine moved_all m vals e hm hz hl hok N p (by omega) (hc.oth h6 p (List.mem_of_getElem? hp)) (a ++ n :: (ps.take j).flatten) ((ps.drop (j + 1)).flatten ++ b) _ ?_ ?_ k1 (by omega)
          · rw [he, flat_splitM hp]; simp
          · unfold startE; simp; omega
        · rw [e6] at hq
          obtain ⟨j, hj⟩ := List.getElem?_of_mem hp
          have h1 := hpl j _ hj
          simp only [List.length_cons] at hxl hk
          obtain ⟨g1, g2⟩ := good_out hm (hc.oth h6 p hp) (by omega) (k := k1) (by omega) hq
          exact ⟨⟨false, g1.1⟩, g2⟩
      intro w A c hc' hcm hsl
      by_cases h5 : n.op = 5 ∧ vals = true
      · have hlk : looksB m n = false := by unfold looksB; rw [if_neg (by omega), if_neg (by omega)]
        refine md_set_no m vals k1 e i n ps hR hlk h5.1 hex h5.2 (fun p hp q hq => ?_) w A c hc' hcm hsl
        obtain ⟨j, hj⟩ := List.getElem?_of_mem hp
        have h1 := hpl j _ hj
        simp only [List.length_cons] at hxl hk
        exact (good_out hm (hc.oth h6 p hp) (by omega) (k := k1) (by omega) hq).1.2 h5.2
      · have h5' : n.op = 5 → vals = false := fun h => by
          cases vals with
          | false => rfl
          | true => exact absurd ⟨h, rfl⟩ h5
        by_cases hlk : looksB m n = true
        · by_cases hs : n.s.toList = m.fr.toList
          · exact md_oth_hit m vals k1 e i n ps hR hlk hs h6 hex h5' w A c hc' hcm hsl
          · exact md_oth_miss m vals k1 e i n ps hR hlk hs h6 hex h5' w A c hc' hcm hsl
        · exact md_oth_no m vals k1 e i n ps hR (by simpa using hlk) h6 hex h5' w A c hc' hcm hsl
end Go.Proofs.YtnhcjpmamgdeoaaGreatDoor
namespace Go.Proofs.YtnhcjpmamgdeoaaGreatDoor
open Go.RowKit Go.Sort

def MxPost (w : World) (r : Ending) (w' : World) (xs : List Nd) (k : Int) : Prop :=
  ∃ A c, r = .returned (.tuple #[.slice A xs.length c, .int .i64 k]) ∧ xs.length ≤ c ∧ c ≤ 9223372036854775807 ∧ NdSl w' w'.heap.size A xs ∧ RowKit.Below w.heap.size w w'
set_option maxRecDepth 100000 in
set_option maxHeartbeats 6400000 in
theorem r4_MovedExpr_e (m : Mv) (e : List Nd) (A : Option Addr) (c : Nat) (w : World) (hz : MvZ m) (hc : e.length ≤ c) (hcm : c ≤ 9223372036854775807) (hok : NdOk e) (hsl : NdSl w w.heap.size A e) :
    Calls Tryz.prog 9 #[.agg #[.int .i64 m.what, .string m.fr, .string m.to_], .slice A e.length c, .bool false] w fun r w' => MxPost w r w' (exprM m e).1 (exprM m e).2 := by
  have HMF := Lib.hid (fun W => r4_MoveFault m W hz)
  have HVF := Lib.hid (fun W (hW : RowKit.Below w.heap.size w W) => r2_Fault e A c W (by omega) hok ((hsl.below hW).more hW.size))
  obtain ⟨w0, hw0e⟩ : ∃ w0, w.alloc (.cells #[.int .i64 m.what, .string m.fr, .string m.to_] 23) = w0 := ⟨_, rfl⟩
  have hw0 : RowKit.Below w.heap.size w w0 := by rw [← hw0e]; (repeat (first | assumption | exact Below.refl _ _ | apply Below.drew | apply below_drewN | (refine Below.alloc ?_ (by first | exact Nat.le_refl _ | omega | (simp; done) | (simp; omega)) _)))
  have HM0 : Hid (MCap m w.heap.size w0) := by rw [← hw0e]; exact MCap.new m w
  have HW0 := Lib.hid hw0e
  clear hw0e
  by_cases hm : mvErr m = 0
  · by_cases he : treeErr e = 0
    · have hl : e.length ≤ 200 := (tree_len he).1
      have HMV := Lib.hid (fun W (hW : RowKit.Below w.heap.size w W) => moved_all m false e hm hz hl hok e.length e (Nat.le_refl _) ⟨((tree_iff e).1 he).2, fun h => by cases h⟩ [] [] 0 (by simp) rfl e.length (Nat.le_refl _) W A c hc hcm ((hsl.below hW).more hW.size))
      have HV : Hid (exprM m e = ((movGo m false e.length e).getD [], if (movGo m false e.length e).isSome = true then 0 else 6)) := by show _ = _; unfold exprM; rw [if_neg (by simp [hm]), if_neg (by simp [he])]; rfl
      rw [hm] at HMF
      rw [he] at HVF
      obtain ⟨o, ho⟩ : ∃ o, movGo m false e.length e = o := ⟨_, rfl⟩
      rw [ho] at HMV HV
      clear hm he hok hsl ho
      cases o with
      | none =>
        have HV2 : Hid (exprM m e = ([], 6)) := HV.out
        rw [HV2.out]
        go_enter Tryz.func9, Tryz.ntmps9
        go_wp2_with fail
        rw [HW0.out]
        refine (HMF.out _).mono ?_
        rintro r w1 ⟨rfl, hb1⟩
        have hw1 : RowKit.Below w.heap.size w w1 := hw0.trans (hb1.mono hw0.size)
        have HM1 := Lib.hid (HM0.out.later hb1)
        have g0 := HM1.out.c0
        have g1 := HM1.out.c1
        have g2 := HM1.out.c2
        clear hb1
        go_wp2_with fail
        refine (HVF.out _ hw1).mono ?_
        rintro r w2 ⟨rfl, hb2⟩
        have hw2 : RowKit.Below w.heap.size w w2 := hw1.trans (hb2.mono hw1.size)
        have HM2 := Lib.hid (HM1.out.later hb2)
        clear g0 g1 g2 hb2
        have g0 := HM2.out.c0
        have g1 := HM2.out.c1
        have g2 := HM2.out.c2
        go_wp2_with fail
        refine (HMV.out _ hw2).mono ?_
        rintro r w3 hpost
        obtain ⟨rfl, hb3⟩ := hpost.2 rfl
        clear hpost
        go_wp2_with fail
        go_ret2
        exact ⟨none, 0, rfl, Nat.le_refl _, by omega, NdSl.nil _ _ _, hw2.trans (hb3.mono hw2.size)⟩
      | some ys =>
        have HV2 : Hid (exprM m e = (ys, 0)) := HV.out
        rw [HV2.out]
        go_enter Tryz.func9, Tryz.ntmps9
        go_wp2_with fail
        rw [HW0.out]
        refine (HMF.out _).mono ?_
        rintro r w1 ⟨rfl, hb1⟩
        have hw1 : RowKit.Below w.heap.size w w1 := hw0.trans (hb1.mono hw0.size)
        have HM1 := Lib.hid (HM0.out.later hb1)
        have g0 := HM1.out.c0
        have g1 := HM1.out.c1
        have g2 := HM1.out.c2
        clear hb1
        go_wp2_with fail
        refine (HVF.out _ hw1).mono ?_
        rintro r w2 ⟨rfl, hb2⟩
        have hw2 : RowKit.Below w.heap.size w w2 := hw1.trans (hb2.mono hw1.size)
        have HM2 := Lib.hid (HM1.out.later hb2)
        clear g0 g1 g2 hb2
        have g0 := HM2.out.c0
        have g1 := HM2.out.c1
        have g2 := HM2.out.c2
        go_wp2_with fail
        refine (HMV.out _ hw2).mono ?_
        rintro r w3 hpost
        obtain ⟨A3, c3, rfl, h1, h2, h3, hb3, -⟩ := hpost.1 ys rfl
        have H3 := Lib.hid h3
        have H1 := Lib.hid h1
        clear hpost h3 h1
        go_wp2_with fail
        go_ret2
        exact ⟨A3, c3, rfl, H1.out, h2, H3.out, hw2.trans (hb3.mono hw2.size)⟩
    · have tk : (treeErr e != 0) = true := by simp [he]
      have HV : Hid (exprM m e = ([], treeErr e)) := by show _ = _; unfold exprM; rw [if_neg (by simp [hm]), if_pos he]
      have tk2 : (treeErr e == 0) = false := by simp [he]
      rw [HV.out]
      rw [hm] at HMF
      clear hm he hok hsl HV
      generalize treeErr e = k at HVF tk tk2 ⊢
      go_enter Tryz.func9, Tryz.ntmps9
      go_wp2_with fail
      rw [HW0.out]
      refine (HMF.out _).mono ?_
      rintro r w1 ⟨rfl, hb1⟩
      have hw1 : RowKit.Below w.heap.size w w1 := hw0.trans (hb1.mono hw0.size)
      have HM1 := Lib.hid (HM0.out.later hb1)
      have g0 := HM1.out.c0
      have g1 := HM1.out.c1
      have g2 := HM1.out.c2
      clear hb1
      go_wp2_with fail
      refine (HVF.out _ hw1).mono ?_
      rintro r w2 ⟨rfl, hb2⟩
      have hw2 : RowKit.Below w.heap.size w w2 := hw1.trans (hb2.mono hw1.size)
      have HM2 := Lib.hid (HM1.out.later hb2)
      clear g0 g1 g2 hb2
      have g0 := HM2.out.c0
      have g1 := HM2.out.c1
      have g2 := HM2.out.c2
      go_wp2_with fail
      go_ret2
      exact ⟨none, 0, rfl, Nat.le_refl _, by omega, NdSl.nil _ _ _, hw2⟩
  · have tk : (mvErr m != 0) = true := by simp [hm]
    have tk2 : (mvErr m == 0) = false := by simp [hm]
    have HV : Hid (exprM m e = ([], mvErr m)) := by show _ = _; unfold exprM; rw [if_pos hm]
    rw [HV.out]
    clear hm hok hsl HV
    generalize mvErr m = k at HMF tk tk2 ⊢
    go_enter Tryz.func9, Tryz.ntmps9
    go_wp2_with fail
    rw [HW0.out]
    refine (HMF.out _).mono ?_
    rintro r w1 ⟨rfl, hb1⟩
    have hw1 : RowKit.Below w.heap.size w w1 := hw0.trans (hb1.mono hw0.size)
    have HM1 := Lib.hid (HM0.out.later hb1)
    have g0 := HM1.out.c0
    have g1 := HM1.out.c1
    have g2 := HM1.out.c2
    clear hb1
    go_wp2_with fail
    go_ret2
    exact ⟨none, 0, rfl, Nat.le_refl _, by omega, NdSl.nil _ _ _, hw1⟩
set_option maxRecDepth 100000 in
set_option maxHeartbeats 6400000 in
theorem r4_MovedExpr_v (m : Mv) (e : List Nd) (A : Option Addr) (c : Nat) (w : World) (hz : MvZ m) (hc : e.length ≤ c) (hcm : c ≤ 9223372036854775807) (hok : NdOk e) (hsl : NdSl w w.heap.size A e) :
    Calls Tryz.prog 9 #[.agg #[.int .i64 m.what, .string m.fr, .string m.to_], .slice A e.length c, .bool true] w fun r w' => MxPost w r w' (valueM m e).1 (valueM m e).2 := by
  have HMF := Lib.hid (fun W => r4_MoveFault m W hz)
  have HVF := Lib.hid (fun W (hW : RowKit.Below w.heap.size w W) => r1_ValueFault e A c W hc hcm hok ((hsl.below hW).more hW.size))
  obtain ⟨w0, hw0e⟩ : ∃ w0, w.alloc (.cells #[.int .i64 m.what, .string m.fr, .string m.to_] 23) = w0 := ⟨_, rfl⟩
  have hw0 : RowKit.Below w.heap.size w w0 := by rw [← hw0e]; (repeat (first | assumption | exact Below.refl _ _ | apply Below.drew | apply below_drewN | (refine Below.alloc ?_ (by first | exact Nat.le_refl _ | omega | (simp; done) | (simp; omega)) _)))
  have HM0 : Hid (MCap m w.heap.size w0) := by rw [← hw0e]; exact MCap.new m w
  have HW0 := Lib.hid hw0e
  clear hw0e
  by_cases hm : mvErr m = 0
  · by_cases he : valErr e = 0
    · have hl : e.length ≤ 200 := ((val_iff e).1 he).1
      have HMV := Lib.hid (fun W (hW : RowKit.Below w.heap.size w W) => moved_all m true e hm hz hl hok e.length e (Nat.le_refl _) ⟨vx_ex ((val_iff e).1 he).2, fun _ => ((val_iff e).1 he).2⟩ [] [] 0 (by simp) rfl e.length (Nat.le_refl _) W A c hc hcm ((hsl.below hW).more hW.size))
      have HV : Hid (valueM m e = ((movGo m true e.length e).getD [], if (movGo m true e.length e).isSome = true then 0 else 6)) := by show _ = _; unfold valueM; rw [if_neg (by simp [hm]), if_neg (by simp [he])]; rfl
      rw [hm] at HMF
      rw [he] at HVF
      obtain ⟨o, ho⟩ : ∃ o, movGo m true e.length e = o := ⟨_, rfl⟩
      rw [ho] at HMV HV
      clear hm he hok hsl ho
      cases o with
      | none =>
        have HV2 : Hid (valueM m e = ([], 6)) := HV.out
        rw [HV2.out]
        go_enter Tryz.func9, Tryz.ntmps9
        go_wp2_with fail
        rw [HW0.out]
        refine (HMF.out _).mono ?_
        rintro r w1 ⟨rfl, hb1⟩
        have hw1 : RowKit.Below w.heap.size w w1 := hw0.trans (hb1.mono hw0.size)
        have HM1 := Lib.hid (HM0.out.later hb1)
        have g0 := HM1.out.c0
        have g1 := HM1.out.c1
        have g2 := HM1.out.c2
        clear hb1
        go_wp2_with fail
        refine (HVF.out _ hw1).mono ?_
        rintro r w2 ⟨rfl, hb2⟩
        have hw2 : RowKit.Below w.heap.size w w2 := hw1.trans (hb2.mono hw1.size)
        have HM2 := Lib.hid (HM1.out.later hb2)
        clear g0 g1 g2 hb2
        have g0 := HM2.out.c0
        have g1 := HM2.out.c1
        have g2 := HM2.out.c2
        go_wp2_with fail
        refine (HMV.out _ hw2).mono ?_
        rintro r w3 hpost
        obtain ⟨rfl, hb3⟩ := hpost.2 rfl
        clear hpost
        go_wp2_with fail
        go_ret2
        exact ⟨none, 0, rfl, Nat.le_refl _, by omega, NdSl.nil _ _ _, hw2.trans (hb3.mono hw2.size)⟩
      | some ys =>
        have HV2 : Hid (valueM m e = (ys, 0)) := HV.out
        rw [HV2.out]
        go_enter Tryz.func9, Tryz.ntmps9
        go_wp2_with fail
        rw [HW0.out]
        refine (HMF.out _).mono ?_
        rintro r w1 ⟨rfl, hb1⟩
        have hw1 : RowKit.Below w.heap.size w w1 := hw0.trans (hb1.mono hw0.size)
        have HM1 := Lib.hid (HM0.out.later hb1)
        have g0 := HM1.out.c0
        have g1 := HM1.out.c1
        have g2 := HM1.out.c2
        clear hb1
        go_wp2_with fail
        refine (HVF.out _ hw1).mono ?_
        rintro r w2 ⟨rfl, hb2⟩
        have hw2 : RowKit.Below w.heap.size w w2 := hw1.trans (hb2.mono hw1.size)
        have HM2 := Lib.hid (HM1.out.later hb2)
        clear g0 g1 g2 hb2
        have g0 := HM2.out.c0
        have g1 := HM2.out.c1
        have g2 := HM2.out.c2
        go_wp2_with fail
        refine (HMV.out _ hw2).mono ?_
        rintro r w3 hpost
        obtain ⟨A3, c3, rfl, h1, h2, h3, hb3, -⟩ := hpost.1 ys rfl
        have H3 := Lib.hid h3
        have H1 := Lib.hid h1
        clear hpost h3 h1
        go_wp2_with fail
        go_ret2
        exact ⟨A3, c3, rfl, H1.out, h2, H3.out, hw2.trans (hb3.mono hw2.size)⟩
    · have tk : (valErr e != 0) = true := by simp [he]
      have HV : Hid (valueM m e = ([], valErr e)) := by show _ = _; unfold valueM; rw [if_neg (by simp [hm]), if_pos he]
      have tk2 : (valErr e == 0) = false := by simp [he]
      rw [HV.out]
      rw [hm] at HMF
      clear hm he hok hsl HV
      generalize valErr e = k at HVF tk tk2 ⊢
      go_enter Tryz.func9, Tryz.ntmps9
      go_wp2_with fail
      rw [HW0.out]
      refine (HMF.out _).mono ?_
      rintro r w1 ⟨rfl, hb1⟩
      have hw1 : RowKit.Below w.heap.size w w1 := hw0.trans (hb1.mono hw0.size)
      have HM1 := Lib.hid (HM0.out.later hb1)
      have g0 := HM1.out.c0
      have g1 := HM1.out.c1
      have g2 := HM1.out.c2
      clear hb1
      go_wp2_with fail
      refine (HVF.out _ hw1).mono ?_
      rintro r w2 ⟨rfl, hb2⟩
      have hw2 : RowKit.Below w.heap.size w w2 := hw1.trans (hb2.mono hw1.size)
      have HM2 := Lib.hid (HM1.out.later hb2)
      clear g0 g1 g2 hb2
      have g0 := HM2.out.c0
      have g1 := HM2.out.c1
      have g2 := HM2.out.c2
      go_wp2_with fail
      go_ret2
      exact ⟨none, 0, rfl, Nat.le_refl _, by omega, NdSl.nil _ _ _, hw2⟩
  · have tk : (mvErr m != 0) = true := by simp [hm]
    have tk2 : (mvErr m == 0) = false := by simp [hm]
    have HV : Hid (valueM m e = ([], mvErr m)) := by show _ = _; unfold valueM; rw [if_pos hm]
    rw [HV.out]
    clear hm hok hsl HV
    generalize mvErr m = k at HMF tk tk2 ⊢
    go_enter Tryz.func9, Tryz.ntmps9
    go_wp2_with fail
    rw [HW0.out]
    refine (HMF.out _).mono ?_
    rintro r w1 ⟨rfl, hb1⟩
    have hw1 : RowKit.Below w.heap.size w w1 := hw0.trans (hb1.mono hw0.size)
    have HM1 := Lib.hid (HM0.out.later hb1)
    have g0 := HM1.out.c0
    have g1 := HM1.out.c1
    have g2 := HM1.out.c2
    clear hb1
    go_wp2_with fail
    go_ret2
    exact ⟨none, 0, rfl, Nat.le_refl _, by omega, NdSl.nil _ _ _, hw1⟩
end Go.Proofs.YtnhcjpmamgdeoaaGreatDoor
namespace Go.Proofs.YtnhcjpmamgdeoaaGreatDoor
open Go.RowKit Go.Sort
def MvS (b : Nat) (m : Mv) (w1 W : World) : Prop := W.cell? ⟨b, 0, none⟩ = some (.int .i64 m.what) ∧ W.cell? ⟨b, 1, none⟩ = some (.string m.fr) ∧ W.cell? ⟨b, 2, none⟩ = some (.string m.to_) ∧ RowKit.Below w1.heap.size w1 W
theorem MvS.keep {b : Nat} {m : Mv} {w1 W W' : World} (h : MvS b m w1 W) (hb : RowKit.Below W.heap.size W W') (hl : b < w1.heap.size) : MvS b m w1 W' := by
  obtain ⟨h0, h1, h2, hw⟩ := h
  have hz := hw.size
  have := fun i => hb.cell (p := ⟨b, i, none⟩) (show b < W.heap.size by omega)
  exact ⟨(this _).trans h0, (this _).trans h1, (this _).trans h2, hw.trans (hb.mono hz)⟩
set_option maxRecDepth 100000 in
set_option maxHeartbeats 25600000 in
theorem law_mexprs (m : Mv) (e v : List Nd) (A : Option Addr) (c : Nat) (B : Option Addr) (d : Nat) (w : World) (hg : ErrCell w) (hz : MvZ m)
    (hc : e.length ≤ c) (hcm : c ≤ 9223372036854775807) (hok : NdOk e) (hsl : NdSl w w.heap.size A e) (hd : v.length ≤ d) (hdm : d ≤ 9223372036854775807) (hokv : NdOk v) (hslv : NdSl w w.heap.size B v) :
    Calls Tryz.prog 3 #[.agg #[.int .i64 m.what, .string m.fr, .string m.to_], .slice A e.length c, .slice B v.length d] w fun r w' => r = .returned (.bool true) ∧ RowKit.Below w.heap.size w w' := by
  have hlt := hg.lt
  have HG := Lib.hid hg
  have HSE := Lib.hid hsl
  have HRN := Lib.hid (fun W => law_renamed W)
  have HCK := Lib.hid (fun W => move_Check m W hz)
  have HMF := Lib.hid (fun W => r4_MoveFault m W hz)
  have HX1 := Lib.hid (fun W (hW : RowKit.Below w.heap.size w W) => r4_MovedExpr_e m e A c W hz hc hcm hok ((hsl.below hW).more hW.size))
  have HX2 := Lib.hid (fun W (hW : RowKit.Below w.heap.size w W) => move_Expr m e A c W hz hc hcm hok ((hsl.below hW).more hW.size))
  have HV1 := Lib.hid (fun W (hW : RowKit.Below w.heap.size w W) => r4_MovedExpr_v m v B d W hz hd hdm hokv ((hslv.below hW).more hW.size))
  have HV2 := Lib.hid (fun W (hW : RowKit.Below w.heap.size w W) => move_Value m v B d W hz hd hdm hokv ((hslv.below hW).more hW.size))
  have HPF := Lib.hid (fun W (hW : RowKit.Below w.heap.size w W) => r2_Fault e A c W (by omega) hok ((hsl.below hW).more hW.size))
  have HFR := Lib.hid (fun W (hW : RowKit.Below w.heap.size w W) => move_Fresh m e A c W hz hc hcm hok ((hsl.below hW).more hW.size))
  have HFV : Hid (freshV m e = if mvErr m ≠ 0 then (false, mvErr m) else if treeErr e ≠ 0 then (false, treeErr e) else (freshB m e, 0)) := rfl
  obtain ⟨xs, hxs⟩ : ∃ xs, (exprM m e).1 = xs := ⟨_, rfl⟩
  obtain ⟨kx, hkx⟩ : ∃ kx, (exprM m e).2 = kx := ⟨_, rfl⟩
  obtain ⟨ys, hys⟩ : ∃ ys, (valueM m v).1 = ys := ⟨_, rfl⟩
  obtain ⟨ky, hky⟩ : ∃ ky, (valueM m v).2 = ky := ⟨_, rfl⟩
  rw [hxs, hkx] at HX1 HX2
  rw [hys, hky] at HV1 HV2
  obtain ⟨w0, hw0e⟩ : ∃ w0, w.alloc (.cells #[.int .i64 m.what, .string m.fr, .string m.to_] 23) = w0 := ⟨_, rfl⟩
  have hw0 : RowKit.Below w.heap.size w w0 := by rw [← hw0e]; (repeat (first | assumption | exact Below.refl _ _ | apply Below.drew | apply below_drewN | (refine Below.alloc ?_ (by first | exact Nat.le_refl _ | omega | (simp; done) | (simp; omega)) _)))
  have HM0 : Hid (MCap m w.heap.size w0) := by rw [← hw0e]; exact MCap.new m w
  have HW0 := Lib.hid hw0e
  have hmz1 := hz.1
  have hmz2 := hz.2
  obtain ⟨kf, hkf⟩ : ∃ kf, mvErr m = kf := ⟨_, rfl⟩
  rw [hkf] at HMF HCK HFV
  have HWH : Hid (kf = 0 → m.what = 1 ∨ m.what = 2) := fun h => mv_what (hkf.trans h)
  clear hw0e hxs hkx hys hky hg hsl hok hslv hokv hz hkf
  by_cases h0 : kf = 0
  · have hwh := HWH.out h0
    have HLK := Lib.hid (fun x W => r4_Looks m x W hwh)
    clear hwh HWH
    subst h0
    by_cases ht : treeErr e = 0
    · have HFV2 : Hid (freshV m e = (freshB m e, 0)) := by show _ = _; rw [HFV.out, if_neg (by simp), if_neg (by simp [ht])]
      have HEE := Lib.hid (fun W (hW : ErrCell W) => same_Error 0 W hW)
      rw [HFV2.out] at HFR
      rw [ht] at HPF
      have HFB : Hid (freshB m e = !e.any (hitB m)) := rfl
      have hel := (tree_len ht).1
      clear ht HFV HFV2
      obtain ⟨fb, hfb⟩ : ∃ fb, freshB m e = fb := ⟨_, rfl⟩
      rw [hfb] at HFR HFB
      clear hfb
      go_enter Tryz.func3, Tryz.ntmps3
      go_wp2_with fail
      rw [HW0.out]
      refine (HRN.out _).mono ?_
      rintro r w1 ⟨rfl, hb1⟩
      have hw1 : RowKit.Below w.heap.size w w1 := hw0.trans (hb1.mono hw0.size)
      have HM1 := Lib.hid (HM0.out.later hb1)
      have g0 := HM1.out.c0
      have g1 := HM1.out.c1
      have g2 := HM1.out.c2
      have hwb1 : w.heap.size < w1.heap.size := HM1.out.lt
      clear hb1
      go_wp2_with fail
      have HS0 : Hid (MvS w.heap.size m w1 w1.drew) := Lib.hid ⟨g0, g1, g2, (RowKit.Below.refl _ _).drew⟩
      go_region_held3 (fun W => W.cell? ⟨w.heap.size, 0, none⟩ = some (.int .i64 m.what) ∧ W.cell? ⟨w.heap.size, 1, none⟩ = some (.string m.fr) ∧ W.cell? ⟨w.heap.size, 2, none⟩ = some (.string m.to_) ∧ RowKit.Below w1.heap.size w1 W) (first | exact HS0.out | exact MvS.keep (by assumption) hb hwb1)
        (first
          | (go_at_call 7; ((with_reducible refine (HCK.out _).mono ?_)); rintro r W ⟨rfl, hb⟩; have k0 := hw1.drew.trans (hb.mono hw1.size))
          | (go_at_call 8; ((with_reducible refine (HMF.out _).mono ?_)); rintro r W ⟨rfl, hb⟩; have k1 := k0.trans (hb.mono k0.size))
          | (go_at_call 6; ((with_reducible refine (same_Error 0 _ (HG.out.below k1 hlt)).mono ?_)); rintro r W ⟨rfl, hb⟩; have k2 := k1.trans (hb.mono k1.size)))
      have hS : MvS w.heap.size m w1 W := by assumption
      obtain ⟨z0, z1, z2, hwW⟩ := hS
      have hw4 : RowKit.Below w.heap.size w W := hw1.trans (hwW.mono hw1.size)
      have HM4 : Hid (MCap m w.heap.size W) := ⟨z0, z1, z2, Nat.lt_of_lt_of_le hwb1 hwW.size⟩
      clear z0 z1 z2 hwW k0 k1 k2 HS0
      obtain ⟨w4, rfl⟩ : ∃ w4 : World, w4 = W := ⟨_, rfl⟩
      clear g0 g1 g2
      have g0 := HM4.out.c0
      have g1 := HM4.out.c1
      have g2 := HM4.out.c2
      go_wp2_with fail
      refine (HX1.out _ hw4).mono ?_
      rintro r w5 ⟨A5, c5, rfl, h51, h52, h53, hb5⟩
      have hw5 : RowKit.Below w.heap.size w w5 := hw4.trans (hb5.mono hw4.size)
      have HM5 := Lib.hid (HM4.out.later hb5)
      have HS5 := Lib.hid h53
      clear h53
      clear hb5
      clear g0 g1 g2
      have g0 := HM5.out.c0
      have g1 := HM5.out.c1
      have g2 := HM5.out.c2
      go_wp2_with fail
      refine (HX2.out _ hw5).mono ?_
      rintro r w6 ⟨A6, c6, rfl, h61, h62, h63, hb6⟩
      have hw6 : RowKit.Below w.heap.size w w6 := hw5.trans (hb6.mono hw5.size)
      have HM6 := Lib.hid (HM5.out.later hb6)
      have HS6 := Lib.hid h63
      have HS56 := Lib.hid ((HS5.out.below hb6).more hb6.size)
      have hxl : xs.length ≤ 9223372036854775807 := by omega
      clear h63 h61 h62 h51 h52
      clear hb6
      clear g0 g1 g2
      have g0 := HM6.out.c0
      have g1 := HM6.out.c1
      have g2 := HM6.out.c2
      go_wp2_with fail
      refine (same_Error kx _ (HG.out.below hw6 hlt)).mono ?_
      rintro r w7 ⟨rfl, hb7⟩
      have hw7 : RowKit.Below w.heap.size w w7 := hw6.trans (hb7.mono hw6.size)
      have HM7 := Lib.hid (HM6.out.later hb7)
      have HS67 := Lib.hid ((HS6.out.below hb7).more hb7.size)
      have HS57 := Lib.hid ((HS56.out.below hb7).more hb7.size)
      clear hb7
      clear g0 g1 g2
      have g0 := HM7.out.c0
      have g1 := HM7.out.c1
      have g2 := HM7.out.c2
      go_wp2_with fail
      refine (same_Nodes xs A6 A5 c6 c5 w7 HS67.out HS57.out hxl).mono ?_
      rintro r w8 ⟨rfl, hb8⟩
      have hw8 : RowKit.Below w.heap.size w w8 := hw7.trans (hb8.mono hw7.size)
      have HM8 := Lib.hid (HM7.out.later hb8)
      clear hb8
      clear g0 g1 g2
      have g0 := HM8.out.c0
      have g1 := HM8.out.c1
      have g2 := HM8.out.c2
      go_wp2_with fail
      refine (HV1.out _ hw8).mono ?_
      rintro r w9 ⟨A9, c9, rfl, h91, h92, h93, hb9⟩
      have hw9 : RowKit.Below w.heap.size w w9 := hw8.trans (hb9.mono hw8.size)
      have HM9 := Lib.hid (HM8.out.later hb9)
      have HS9 := Lib.hid h93
      clear h93
      clear hb9
      clear g0 g1 g2
      have g0 := HM9.out.c0
      have g1 := HM9.out.c1
      have g2 := HM9.out.c2
      go_wp2_with fail
      refine (HV2.out _ hw9).mono ?_
      rintro r wa ⟨Aa, ca, rfl, ha1, ha2, ha3, hba⟩
      have hwa : RowKit.Below w.heap.size w wa := hw9.trans (hba.mono hw9.size)
      have HMa := Lib.hid (HM9.out.later hba)
      have HSa := Lib.hid ha3
      have HS9a := Lib.hid ((HS9.out.below hba).more hba.size)
      have hyl : ys.length ≤ 9223372036854775807 := by omega
      clear ha3 ha1 ha2 h91 h92
      clear hba
      clear g0 g1 g2
      have g0 := HMa.out.c0
      have g1 := HMa.out.c1
      have g2 := HMa.out.c2
      go_wp2_with fail
      refine (same_Error ky _ (HG.out.below hwa hlt)).mono ?_
      rintro r wb ⟨rfl, hbb⟩
      have hwb : RowKit.Below w.heap.size w wb := hwa.trans (hbb.mono hwa.size)
      have HMb := Lib.hid (HMa.out.later hbb)
      have HSab := Lib.hid ((HSa.out.below hbb).more hbb.size)
      have HS9b := Lib.hid ((HS9a.out.below hbb).more hbb.size)
      clear hbb
      clear g0 g1 g2
      have g0 := HMb.out.c0
      have g1 := HMb.out.c1
      have g2 := HMb.out.c2
      go_wp2_with fail
      refine (same_Nodes ys Aa A9 ca c9 wb HSab.out HS9b.out hyl).mono ?_
      rintro r wc ⟨rfl, hbc⟩
      have hwc : RowKit.Below w.heap.size w wc := hwb.trans (hbc.mono hwb.size)
      have HMc := Lib.hid (HMb.out.later hbc)
      clear hbc
      clear g0 g1 g2
      have g0 := HMc.out.c0
      have g1 := HMc.out.c1
      have g2 := HMc.out.c2
      go_wp2_with fail
      refine (HMF.out _).mono ?_
      rintro r wd ⟨rfl, hbd⟩
      have hwd : RowKit.Below w.heap.size w wd := hwc.trans (hbd.mono hwc.size)
      have HMd := Lib.hid (HMc.out.later hbd)
      clear hbd
      clear g0 g1 g2
      have g0 := HMd.out.c0
      have g1 := HMd.out.c1
      have g2 := HMd.out.c2
      go_wp2_with fail
      refine (HPF.out _ hwd).mono ?_
      rintro r we ⟨rfl, hbe⟩
      have hwe : RowKit.Below w.heap.size w we := hwd.trans (hbe.mono hwd.size)
      have HMe := Lib.hid (HMd.out.later hbe)
      clear hbe
      clear g0 g1 g2
      have g0 := HMe.out.c0
      have g1 := HMe.out.c1
      have g2 := HMe.out.c2
      clear g0 g1 g2
      go_wp2_with fail
      go_loopw [15, 16] (fun fv kk wr => ∃ k : Nat, kk = .int .i64 k ∧ k ≤ e.length ∧ (∃ q : Bool, fv = .bool q ∧ Hid (q = !(e.take k).any (hitB m))) ∧ RowKit.Below we.heap.size we wr) (fun _ kk => fun _ => e.length - (intOf kk).toNat)
      case atStart => exact ⟨0, rfl, by omega, ⟨true, rfl, rfl⟩, RowKit.Below.refl _ _⟩
      case round =>
        obtain ⟨k, rfl, hk, ⟨q, rfl, HQ⟩, hbr⟩ := hrel
        have hzr := hbr.size
        have hwr : RowKit.Below w.heap.size w wr := hwe.trans (hbr.mono hwe.size)
        have HMr := Lib.hid (HMe.out.later hbr)
        cases q with
        | false =>
          have HFF : Hid (fb = false) := by
            show _ = _
            rw [HFB.out]
            have h : (e.take k).any (hitB m) = true := by have := HQ.out; simpa using this.symm
            obtain ⟨x, hx, hh⟩ := List.any_eq_true.1 h
            rw [List.any_eq_true.2 ⟨x, List.mem_of_mem_take hx, hh⟩]; rfl
          rw [HFF.out] at HFR
          have g0 := HMr.out.c0
          have g1 := HMr.out.c1
          have g2 := HMr.out.c2
          clear HQ hbr hzr HMr
          by_cases hlk : k < e.length
          · skip
            go_wp2_with fail
            refine (HFR.out _ hwr).mono ?_
            rintro r wx ⟨rfl, hbx⟩
            have hwx : RowKit.Below w.heap.size w wx := hwr.trans (hbx.mono hwr.size)
            clear hbx
            go_wp2_with fail
            refine (HEE.out wx (HG.out.below hwx hlt)).mono ?_
            rintro r wy ⟨rfl, hby⟩
            go_wp2_with fail
            go_ret
            exact ⟨rfl, hwx.trans (hby.mono hwx.size)⟩
          · skip
            go_wp2_with fail
            refine (HFR.out _ hwr).mono ?_
            rintro r wx ⟨rfl, hbx⟩
            have hwx : RowKit.Below w.heap.size w wx := hwr.trans (hbx.mono hwr.size)
            clear hbx
            go_wp2_with fail
            refine (HEE.out wx (HG.out.below hwx hlt)).mono ?_
            rintro r wy ⟨rfl, hby⟩
            go_wp2_with fail
            go_ret
            exact ⟨rfl, hwx.trans (hby.mono hwx.size)⟩
        | true =>
          by_cases hlk : k < e.length
          · obtain ⟨x, hx⟩ : ∃ x, e[k]? = some x := ⟨_, List.getElem?_eq_getElem hlk⟩
            obtain ⟨bn, on, rfl, hbn, hcs⟩ := ((HSE.out.below hwr).more hwr.size).at_ hlk
            obtain ⟨f0, f1, f2, f3⟩ := hcs k x hx
            have HX := Lib.hid hx
            have HST : Hid ((e.take (k + 1)).any (hitB m) = hitB m x) := by
              show _ = _
              have h : (e.take k).any (hitB m) = false := by have := HQ.out; simpa using this.symm
              rw [List.take_add_one, HX.out, List.any_append, h]; simp
            have m0 := HMr.out.c0
            have m1 := HMr.out.c1
            have m2 := HMr.out.c2
            have hml := HMr.out.lt
            have HLX := Lib.hid (fun W => HLK.out x W)
            have HH : Hid (hitB m x = (looksB m x && x.s.toList == m.to_.toList)) := rfl
            have ra := run_at_nd bn on e.length c k hlk
            have hklt : (k : Int) < (e.length : Int) := by omega
            clear hx hcs
            cases hl : looksB m x with
            | false =>
              rw [hl] at HLX HH
              have HQ2 : Hid (true = !(e.take (k + 1)).any (hitB m)) := by show _ = _; rw [HST.out, HH.out]; rfl
              clear hl
              go_wp2_with fail
              refine wp_region_hd (S := fun W' => W'.cell? ⟨w.heap.size, 0, none⟩ = some (.int .i64 m.what) ∧ W'.cell? ⟨w.heap.size, 1, none⟩ = some (.string m.fr) ∧ W'.cell? ⟨w.heap.size, 2, none⟩ = some (.string m.to_) ∧ W'.cell? ⟨bn, on + k * 4, none⟩ = some (.int .i64 x.op) ∧ W'.cell? ⟨bn, on + k * 4 + 1, none⟩ = some (.int .i64 x.n) ∧ W'.cell? ⟨bn, on + k * 4 + 2, none⟩ = some (.string x.s) ∧ W'.cell? ⟨bn, on + k * 4 + 3, none⟩ = some (.string x.t)) [false, false, false, false, false, true, false, false, false, false, false, false, false, false, false, false] (by kernel_rfl) (by kernel_rfl) (fun _ _ _ _ _ h => h) ⟨m0, m1, m2, f0, f1, f2, f3⟩ (fun hW' => ?_)
              simp only [List.zip_cons_cons, List.zip_nil_left]
              (repeat (first | (refine hd_take (v := ?_) (by rfl) ?_ ?_; rotate_left; (focus (intro W hW; obtain ⟨z0', z1', z2', z3', z4', z5', z6'⟩ := hW; go_simp; try with_reducible rfl)); simp only [Act.put, List.setIfInBounds_toArray, List.set_cons_zero, List.set_cons_succ]) | (refine hd_skip (by rfl) ?_; simp only [Act.put, List.setIfInBounds_toArray, List.set_cons_zero, List.set_cons_succ])))
              refine hd_call (fun K hK => ?_)
              go_simp
              refine (HLX.out _).mono ?_
              rintro r w9 ⟨rfl, hb9'⟩
              have hb9x := below_of_drew hb9'
              have hb9 : RowKit.Below we.heap.size we w9 := hbr.trans (hb9x.mono hzr)
              refine hK _ _ ⟨(hb9x.cell (p := ⟨w.heap.size, 0, none⟩) hml).trans m0, (hb9x.cell (p := ⟨w.heap.size, 1, none⟩) hml).trans m1, (hb9x.cell (p := ⟨w.heap.size, 2, none⟩) hml).trans m2, (hb9x.cell (p := ⟨bn, on + k * 4, none⟩) hbn).trans f0, (hb9x.cell (p := ⟨bn, on + k * 4 + 1, none⟩) hbn).trans f1, (hb9x.cell (p := ⟨bn, on + k * 4 + 2, none⟩) hbn).trans f2, (hb9x.cell (p := ⟨bn, on + k * 4 + 3, none⟩) hbn).trans f3⟩ ?_
              clear hK K hb9' hb9x hW'
              (repeat (first | (refine hd_take (v := ?_) (by rfl) ?_ ?_; rotate_left; (focus (intro W hW; obtain ⟨z0', z1', z2', z3', z4', z5', z6'⟩ := hW; go_simp; try with_reducible rfl)); simp only [Act.put, List.setIfInBounds_toArray, List.set_cons_zero, List.set_cons_succ]) | (refine hd_skip (by rfl) ?_; simp only [Act.put, List.setIfInBounds_toArray, List.set_cons_zero, List.set_cons_succ])))
              refine hd_nil ?_
              go_wp2_with fail
              exact ⟨⟨k + 1, by go_num, by omega, ⟨true, rfl, HQ2⟩, hb9⟩, by simp [intOf]; omega⟩
            | true =>
              rw [hl] at HLX HH
              clear hl
              by_cases hs : x.s.toList = m.to_.toList
              · have ts : (x.s.toList == m.to_.toList) = true := by simp [hs]
                have HQ2 : Hid (false = !(e.take (k + 1)).any (hitB m)) := by show _ = _; rw [HST.out, HH.out, ts]; rfl
                clear hs
                go_wp2_with fail
                refine wp_region_hd (S := fun W' => W'.cell? ⟨w.heap.size, 0, none⟩ = some (.int .i64 m.what) ∧ W'.cell? ⟨w.heap.size, 1, none⟩ = some (.string m.fr) ∧ W'.cell? ⟨w.heap.size, 2, none⟩ = some (.string m.to_) ∧ W'.cell? ⟨bn, on + k * 4, none⟩ = some (.int .i64 x.op) ∧ W'.cell? ⟨bn, on + k * 4 + 1, none⟩ = some (.int .i64 x.n) ∧ W'.cell? ⟨bn, on + k * 4 + 2, none⟩ = some (.string x.s) ∧ W'.cell? ⟨bn, on + k * 4 + 3, none⟩ = some (.string x.t)) [false, false, false, false, false, true, false, false, false, false, false, false, false, false, false, false] (by kernel_rfl) (by kernel_rfl) (fun _ _ _ _ _ h => h) ⟨m0, m1, m2, f0, f1, f2, f3⟩ (fun hW' => ?_)
                simp only [List.zip_cons_cons, List.zip_nil_left]
                (repeat (first | (refine hd_take (v := ?_) (by rfl) ?_ ?_; rotate_left; (focus (intro W hW; obtain ⟨z0', z1', z2', z3', z4', z5', z6'⟩ := hW; go_simp; try with_reducible rfl)); simp only [Act.put, List.setIfInBounds_toArray, List.set_cons_zero, List.set_cons_succ]) | (refine hd_skip (by rfl) ?_; simp only [Act.put, List.setIfInBounds_toArray, List.set_cons_zero, List.set_cons_succ])))
                refine hd_call (fun K hK => ?_)
                go_simp
                refine (HLX.out _).mono ?_
                rintro r w9 ⟨rfl, hb9'⟩
                have hb9x := below_of_drew hb9'
                have hb9 : RowKit.Below we.heap.size we w9 := hbr.trans (hb9x.mono hzr)
                refine hK _ _ ⟨(hb9x.cell (p := ⟨w.heap.size, 0, none⟩) hml).trans m0, (hb9x.cell (p := ⟨w.heap.size, 1, none⟩) hml).trans m1, (hb9x.cell (p := ⟨w.heap.size, 2, none⟩) hml).trans m2, (hb9x.cell (p := ⟨bn, on + k * 4, none⟩) hbn).trans f0, (hb9x.cell (p := ⟨bn, on + k * 4 + 1, none⟩) hbn).trans f1, (hb9x.cell (p := ⟨bn, on + k * 4 + 2, none⟩) hbn).trans f2, (hb9x.cell (p := ⟨bn, on + k * 4 + 3, none⟩) hbn).trans f3⟩ ?_
                clear hK K hb9' hb9x hW'
                (repeat (first | (refine hd_take (v := ?_) (by rfl) ?_ ?_; rotate_left; (focus (intro W hW; obtain ⟨z0', z1', z2', z3', z4', z5', z6'⟩ := hW; go_simp; try with_reducible rfl)); simp only [Act.put, List.setIfInBounds_toArray, List.set_cons_zero, List.set_cons_succ]) | (refine hd_skip (by rfl) ?_; simp only [Act.put, List.setIfInBounds_toArray, List.set_cons_zero, List.set_cons_succ])))
                refine hd_nil ?_
                go_wp2_with fail
                exact ⟨⟨k + 1, by go_num, by omega, ⟨false, rfl, HQ2⟩, hb9⟩, by simp [intOf]; omega⟩
              · have ts : (x.s.toList == m.to_.toList) = false := by simp [hs]
                have HQ2 : Hid (true = !(e.take (k + 1)).any (hitB m)) := by show _ = _; rw [HST.out, HH.out, ts]; rfl
                clear hs
                go_wp2_with fail
                refine wp_region_hd (S := fun W' => W'.cell? ⟨w.heap.size, 0, none⟩ = some (.int .i64 m.what) ∧ W'.cell? ⟨w.heap.size, 1, none⟩ = some (.string m.fr) ∧ W'.cell? ⟨w.heap.size, 2, none⟩ = some (.string m.to_) ∧ W'.cell? ⟨bn, on + k * 4, none⟩ = some (.int .i64 x.op) ∧ W'.cell? ⟨bn, on + k * 4 + 1, none⟩ = some (.int .i64 x.n) ∧ W'.cell? ⟨bn, on + k * 4 + 2, none⟩ = some (.string x.s) ∧ W'.cell? ⟨bn, on + k * 4 + 3, none⟩ = some (.string x.t)) [false, false, false, false, false, true, false, false, false, false, false, false, false, false, false, false] (by kernel_rfl) (by kernel_rfl) (fun _ _ _ _ _ h => h) ⟨m0, m1, m2, f0, f1, f2, f3⟩ (fun hW' => ?_)
                simp only [List.zip_cons_cons, List.zip_nil_left]
                (repeat (first | (refine hd_take (v := ?_) (by rfl) ?_ ?_; rotate_left; (focus (intro W hW; obtain ⟨z0', z1', z2', z3', z4', z5', z6'⟩ := hW; go_simp; try with_reducible rfl)); simp only [Act.put, List.setIfInBounds_toArray, List.set_cons_zero, List.set_cons_succ]) | (refine hd_skip (by rfl) ?_; simp only [Act.put, List.setIfInBounds_toArray, List.set_cons_zero, List.set_cons_succ])))
                refine hd_call (fun K hK => ?_)
                go_simp
                refine (HLX.out _).mono ?_
                rintro r w9 ⟨rfl, hb9'⟩
                have hb9x := below_of_drew hb9'
                have hb9 : RowKit.Below we.heap.size we w9 := hbr.trans (hb9x.mono hzr)
                refine hK _ _ ⟨(hb9x.cell (p := ⟨w.heap.size, 0, none⟩) hml).trans m0, (hb9x.cell (p := ⟨w.heap.size, 1, none⟩) hml).trans m1, (hb9x.cell (p := ⟨w.heap.size, 2, none⟩) hml).trans m2, (hb9x.cell (p := ⟨bn, on + k * 4, none⟩) hbn).trans f0, (hb9x.cell (p := ⟨bn, on + k * 4 + 1, none⟩) hbn).trans f1, (hb9x.cell (p := ⟨bn, on + k * 4 + 2, none⟩) hbn).trans f2, (hb9x.cell (p := ⟨bn, on + k * 4 + 3, none⟩) hbn).trans f3⟩ ?_
                clear hK K hb9' hb9x hW'
                (repeat (first | (refine hd_take (v := ?_) (by rfl) ?_ ?_; rotate_left; (focus (intro W hW; obtain ⟨z0', z1', z2', z3', z4', z5', z6'⟩ := hW; go_simp; try with_reducible rfl)); simp only [Act.put, List.setIfInBounds_toArray, List.set_cons_zero, List.set_cons_succ]) | (refine hd_skip (by rfl) ?_; simp only [Act.put, List.setIfInBounds_toArray, List.set_cons_zero, List.set_cons_succ])))
                refine hd_nil ?_
                go_wp2_with fail
                exact ⟨⟨k + 1, by go_num, by omega, ⟨true, rfl, HQ2⟩, hb9⟩, by simp [intOf]; omega⟩
          · have HFF : Hid (fb = true) := by
              show _ = _
              rw [HFB.out]
              have := HQ.out
              rw [List.take_of_length_le (by omega)] at this
              exact this.symm
            rw [HFF.out] at HFR
            have g0 := HMr.out.c0
            have g1 := HMr.out.c1
            have g2 := HMr.out.c2
            clear HQ hbr hzr HMr
            go_wp2_with fail
            refine (HFR.out _ hwr).mono ?_
            rintro r wx ⟨rfl, hbx⟩
            have hwx : RowKit.Below w.heap.size w wx := hwr.trans (hbx.mono hwr.size)
            clear hbx
            go_wp2_with fail
            refine (HEE.out wx (HG.out.below hwx hlt)).mono ?_
            rintro r wy ⟨rfl, hby⟩
            go_wp2_with fail
            go_ret
            exact ⟨rfl, hwx.trans (hby.mono hwx.size)⟩
    · have HFV2 : Hid (freshV m e = (false, treeErr e)) := by show _ = _; rw [HFV.out, if_neg (by simp), if_pos ht]
      have HEE := Lib.hid (fun W (hW : ErrCell W) => same_Error (treeErr e) W hW)
      rw [HFV2.out] at HFR
      have tk : (treeErr e == 0) = false := by simp [ht]
      clear ht HFV HFV2
      generalize treeErr e = kt at HFR HEE HPF tk
      go_enter Tryz.func3, Tryz.ntmps3
      go_wp2_with fail
      rw [HW0.out]
      refine (HRN.out _).mono ?_
      rintro r w1 ⟨rfl, hb1⟩
      have hw1 : RowKit.Below w.heap.size w w1 := hw0.trans (hb1.mono hw0.size)
      have HM1 := Lib.hid (HM0.out.later hb1)
      have g0 := HM1.out.c0
      have g1 := HM1.out.c1
      have g2 := HM1.out.c2
      have hwb1 : w.heap.size < w1.heap.size := HM1.out.lt
      clear hb1
      go_wp2_with fail
      have HS0 : Hid (MvS w.heap.size m w1 w1.drew) := Lib.hid ⟨g0, g1, g2, (RowKit.Below.refl _ _).drew⟩
      go_region_held3 (fun W => W.cell? ⟨w.heap.size, 0, none⟩ = some (.int .i64 m.what) ∧ W.cell? ⟨w.heap.size, 1, none⟩ = some (.string m.fr) ∧ W.cell? ⟨w.heap.size, 2, none⟩ = some (.string m.to_) ∧ RowKit.Below w1.heap.size w1 W) (first | exact HS0.out | exact MvS.keep (by assumption) hb hwb1)
        (first
          | (go_at_call 7; ((with_reducible refine (HCK.out _).mono ?_)); rintro r W ⟨rfl, hb⟩; have k0 := hw1.drew.trans (hb.mono hw1.size))
          | (go_at_call 8; ((with_reducible refine (HMF.out _).mono ?_)); rintro r W ⟨rfl, hb⟩; have k1 := k0.trans (hb.mono k0.size))
          | (go_at_call 6; ((with_reducible refine (same_Error 0 _ (HG.out.below k1 hlt)).mono ?_)); rintro r W ⟨rfl, hb⟩; have k2 := k1.trans (hb.mono k1.size)))
      have hS : MvS w.heap.size m w1 W := by assumption
      obtain ⟨z0, z1, z2, hwW⟩ := hS
      have hw4 : RowKit.Below w.heap.size w W := hw1.trans (hwW.mono hw1.size)
      have HM4 : Hid (MCap m w.heap.size W) := ⟨z0, z1, z2, Nat.lt_of_lt_of_le hwb1 hwW.size⟩
      clear z0 z1 z2 hwW k0 k1 k2 HS0
      obtain ⟨w4, rfl⟩ : ∃ w4 : World, w4 = W := ⟨_, rfl⟩
      clear g0 g1 g2
      have g0 := HM4.out.c0
      have g1 := HM4.out.c1
      have g2 := HM4.out.c2
      go_wp2_with fail
      refine (HX1.out _ hw4).mono ?_
      rintro r w5 ⟨A5, c5, rfl, h51, h52, h53, hb5⟩
      have hw5 : RowKit.Below w.heap.size w w5 := hw4.trans (hb5.mono hw4.size)
      have HM5 := Lib.hid (HM4.out.later hb5)
      have HS5 := Lib.hid h53
      clear h53
      clear hb5
      clear g0 g1 g2
      have g0 := HM5.out.c0
      have g1 := HM5.out.c1
      have g2 := HM5.out.c2
      go_wp2_with fail
      refine (HX2.out _ hw5).mono ?_
      rintro r w6 ⟨A6, c6, rfl, h61, h62, h63, hb6⟩
      have hw6 : RowKit.Below w.heap.size w w6 := hw5.trans (hb6.mono hw5.size)
      have HM6 := Lib.hid (HM5.out.later hb6)
      have HS6 := Lib.hid h63
      have HS56 := Lib.hid ((HS5.out.below hb6).more hb6.size)
      have hxl : xs.length ≤ 9223372036854775807 := by omega
      clear h63 h61 h62 h51 h52
      clear hb6
      clear g0 g1 g2
      have g0 := HM6.out.c0
      have g1 := HM6.out.c1
      have g2 := HM6.out.c2
      go_wp2_with fail
      refine (same_Error kx _ (HG.out.below hw6 hlt)).mono ?_
      rintro r w7 ⟨rfl, hb7⟩
      have hw7 : RowKit.Below w.heap.size w w7 := hw6.trans (hb7.mono hw6.size)
      have HM7 := Lib.hid (HM6.out.later hb7)
      have HS67 := Lib.hid ((HS6.out.below hb7).more hb7.size)
      have HS57 := Lib.hid ((HS56.out.below hb7).more hb7.size)
      clear hb7
      clear g0 g1 g2
      have g0 := HM7.out.c0
      have g1 := HM7.out.c1
      have g2 := HM7.out.c2
      go_wp2_with fail
      refine (same_Nodes xs A6 A5 c6 c5 w7 HS67.out HS57.out hxl).mono ?_
      rintro r w8 ⟨rfl, hb8⟩
      have hw8 : RowKit.Below w.heap.size w w8 := hw7.trans (hb8.mono hw7.size)
      have HM8 := Lib.hid (HM7.out.later hb8)
      clear hb8
      clear g0 g1 g2
      have g0 := HM8.out.c0
      have g1 := HM8.out.c1
      have g2 := HM8.out.c2
      go_wp2_with fail
      refine (HV1.out _ hw8).mono ?_
      rintro r w9 ⟨A9, c9, rfl, h91, h92, h93, hb9⟩
      have hw9 : RowKit.Below w.heap.size w w9 := hw8.trans (hb9.mono hw8.size)
      have HM9 := Lib.hid (HM8.out.later hb9)
      have HS9 := Lib.hid h93
      clear h93
      clear hb9
      clear g0 g1 g2
      have g0 := HM9.out.c0
      have g1 := HM9.out.c1
      have g2 := HM9.out.c2
      go_wp2_with fail
      refine (HV2.out _ hw9).mono ?_
      rintro r wa ⟨Aa, ca, rfl, ha1, ha2, ha3, hba⟩
      have hwa : RowKit.Below w.heap.size w wa := hw9.trans (hba.mono hw9.size)
      have HMa := Lib.hid (HM9.out.later hba)
      have HSa := Lib.hid ha3
      have HS9a := Lib.hid ((HS9.out.below hba).more hba.size)
      have hyl : ys.length ≤ 9223372036854775807 := by omega
      clear ha3 ha1 ha2 h91 h92
      clear hba
      clear g0 g1 g2
      have g0 := HMa.out.c0
      have g1 := HMa.out.c1
      have g2 := HMa.out.c2
      go_wp2_with fail
      refine (same_Error ky _ (HG.out.below hwa hlt)).mono ?_
      rintro r wb ⟨rfl, hbb⟩
      have hwb : RowKit.Below w.heap.size w wb := hwa.trans (hbb.mono hwa.size)
      have HMb := Lib.hid (HMa.out.later hbb)
      have HSab := Lib.hid ((HSa.out.below hbb).more hbb.size)
      have HS9b := Lib.hid ((HS9a.out.below hbb).more hbb.size)
      clear hbb
      clear g0 g1 g2
      have g0 := HMb.out.c0
      have g1 := HMb.out.c1
      have g2 := HMb.out.c2
      go_wp2_with fail
      refine (same_Nodes ys Aa A9 ca c9 wb HSab.out HS9b.out hyl).mono ?_
      rintro r wc ⟨rfl, hbc⟩
      have hwc : RowKit.Below w.heap.size w wc := hwb.trans (hbc.mono hwb.size)
      have HMc := Lib.hid (HMb.out.later hbc)
      clear hbc
      clear g0 g1 g2
      have g0 := HMc.out.c0
      have g1 := HMc.out.c1
      have g2 := HMc.out.c2
      go_wp2_with fail
      refine (HMF.out _).mono ?_
      rintro r wd ⟨rfl, hbd⟩
      have hwd : RowKit.Below w.heap.size w wd := hwc.trans (hbd.mono hwc.size)
      have HMd := Lib.hid (HMc.out.later hbd)
      clear hbd
      clear g0 g1 g2
      have g0 := HMd.out.c0
      have g1 := HMd.out.c1
      have g2 := HMd.out.c2
      go_wp2_with fail
      refine (HPF.out _ hwd).mono ?_
      rintro r we ⟨rfl, hbe⟩
      have hwe : RowKit.Below w.heap.size w we := hwd.trans (hbe.mono hwd.size)
      have HMe := Lib.hid (HMd.out.later hbe)
      clear hbe
      clear g0 g1 g2
      have g0 := HMe.out.c0
      have g1 := HMe.out.c1
      have g2 := HMe.out.c2
      go_wp2_with fail
      go_loop [15, 16] (fun fv kk => kk = .int .i64 0 ∧ fv = .bool false) (fun _ _ => 0)
      case atStart => exact ⟨rfl, rfl⟩
      case round =>
        obtain ⟨rfl, rfl⟩ := hrel
        by_cases hlk : 0 < e.length
        · skip
          go_wp2_with fail
          refine (HFR.out _ hwe).mono ?_
          rintro r wx ⟨rfl, hbx⟩
          have hwx : RowKit.Below w.heap.size w wx := hwe.trans (hbx.mono hwe.size)
          clear hbx
          go_wp2_with fail
          refine (HEE.out wx (HG.out.below hwx hlt)).mono ?_
          rintro r wy ⟨rfl, hby⟩
          go_wp2_with fail
          go_ret
          exact ⟨rfl, hwx.trans (hby.mono hwx.size)⟩
        · skip
          go_wp2_with fail
          refine (HFR.out _ hwe).mono ?_
          rintro r wx ⟨rfl, hbx⟩
          have hwx : RowKit.Below w.heap.size w wx := hwe.trans (hbx.mono hwe.size)
          clear hbx
          go_wp2_with fail
          refine (HEE.out wx (HG.out.below hwx hlt)).mono ?_
          rintro r wy ⟨rfl, hby⟩
          go_wp2_with fail
          go_ret
          exact ⟨rfl, hwx.trans (hby.mono hwx.size)⟩
  · have HFV2 : Hid (freshV m e = (false, kf)) := by show _ = _; rw [HFV.out, if_pos h0]
    have HEE := Lib.hid (fun W (hW : ErrCell W) => same_Error kf W hW)
    rw [HFV2.out] at HFR
    have tk : (kf == 0) = false := by simp [h0]
    clear h0 HFV HFV2 HWH
    go_enter Tryz.func3, Tryz.ntmps3
    go_wp2_with fail
    rw [HW0.out]
    refine (HRN.out _).mono ?_
    rintro r w1 ⟨rfl, hb1⟩
    have hw1 : RowKit.Below w.heap.size w w1 := hw0.trans (hb1.mono hw0.size)
    have HM1 := Lib.hid (HM0.out.later hb1)
    have g0 := HM1.out.c0
    have g1 := HM1.out.c1
    have g2 := HM1.out.c2
    have hwb1 : w.heap.size < w1.heap.size := HM1.out.lt
    clear hb1
    go_wp2_with fail
    have HS0 : Hid (MvS w.heap.size m w1 w1.drew) := Lib.hid ⟨g0, g1, g2, (RowKit.Below.refl _ _).drew⟩
    go_region_held3 (fun W => W.cell? ⟨w.heap.size, 0, none⟩ = some (.int .i64 m.what) ∧ W.cell? ⟨w.heap.size, 1, none⟩ = some (.string m.fr) ∧ W.cell? ⟨w.heap.size, 2, none⟩ = some (.string m.to_) ∧ RowKit.Below w1.heap.size w1 W) (first | exact HS0.out | exact MvS.keep (by assumption) hb hwb1)
      (first
        | (go_at_call 7; ((with_reducible refine (HCK.out _).mono ?_)); rintro r W ⟨rfl, hb⟩; have k0 := hw1.drew.trans (hb.mono hw1.size))
        | (go_at_call 8; ((with_reducible refine (HMF.out _).mono ?_)); rintro r W ⟨rfl, hb⟩; have k1 := k0.trans (hb.mono k0.size))
        | (go_at_call 6; ((with_reducible refine (same_Error kf _ (HG.out.below k1 hlt)).mono ?_)); rintro r W ⟨rfl, hb⟩; have k2 := k1.trans (hb.mono k1.size)))
    have hS : MvS w.heap.size m w1 W := by assumption
    obtain ⟨z0, z1, z2, hwW⟩ := hS
    have hw4 : RowKit.Below w.heap.size w W := hw1.trans (hwW.mono hw1.size)
    have HM4 : Hid (MCap m w.heap.size W) := ⟨z0, z1, z2, Nat.lt_of_lt_of_le hwb1 hwW.size⟩
    clear z0 z1 z2 hwW k0 k1 k2 HS0
    obtain ⟨w4, rfl⟩ : ∃ w4 : World, w4 = W := ⟨_, rfl⟩
    clear g0 g1 g2
    have g0 := HM4.out.c0
    have g1 := HM4.out.c1
    have g2 := HM4.out.c2
    go_wp2_with fail
    refine (HX1.out _ hw4).mono ?_
    rintro r w5 ⟨A5, c5, rfl, h51, h52, h53, hb5⟩
    have hw5 : RowKit.Below w.heap.size w w5 := hw4.trans (hb5.mono hw4.size)
    have HM5 := Lib.hid (HM4.out.later hb5)
    have HS5 := Lib.hid h53
    clear h53
    clear hb5
    clear g0 g1 g2
    have g0 := HM5.out.c0
    have g1 := HM5.out.c1
    have g2 := HM5.out.c2
    go_wp2_with fail
    refine (HX2.out _ hw5).mono ?_
    rintro r w6 ⟨A6, c6, rfl, h61, h62, h63, hb6⟩
    have hw6 : RowKit.Below w.heap.size w w6 := hw5.trans (hb6.mono hw5.size)
    have HM6 := Lib.hid (HM5.out.later hb6)
    have HS6 := Lib.hid h63
    have HS56 := Lib.hid ((HS5.out.below hb6).more hb6.size)
    have hxl : xs.length ≤ 9223372036854775807 := by omega
    clear h63 h61 h62 h51 h52
    clear hb6
    clear g0 g1 g2
    have g0 := HM6.out.c0
    have g1 := HM6.out.c1
    have g2 := HM6.out.c2
    go_wp2_with fail
    refine (same_Error kx _ (HG.out.below hw6 hlt)).mono ?_
    rintro r w7 ⟨rfl, hb7⟩
    have hw7 : RowKit.Below w.heap.size w w7 := hw6.trans (hb7.mono hw6.size)
    have HM7 := Lib.hid (HM6.out.later hb7)
    have HS67 := Lib.hid ((HS6.out.below hb7).more hb7.size)
    have HS57 := Lib.hid ((HS56.out.below hb7).more hb7.size)
    clear hb7
    clear g0 g1 g2
    have g0 := HM7.out.c0
    have g1 := HM7.out.c1
    have g2 := HM7.out.c2
    go_wp2_with fail
    refine (same_Nodes xs A6 A5 c6 c5 w7 HS67.out HS57.out hxl).mono ?_
    rintro r w8 ⟨rfl, hb8⟩
    have hw8 : RowKit.Below w.heap.size w w8 := hw7.trans (hb8.mono hw7.size)
    have HM8 := Lib.hid (HM7.out.later hb8)
    clear hb8
    clear g0 g1 g2
    have g0 := HM8.out.c0
    have g1 := HM8.out.c1
    have g2 := HM8.out.c2
    go_wp2_with fail
    refine (HV1.out _ hw8).mono ?_
    rintro r w9 ⟨A9, c9, rfl, h91, h92, h93, hb9⟩
    have hw9 : RowKit.Below w.heap.size w w9 := hw8.trans (hb9.mono hw8.size)
    have HM9 := Lib.hid (HM8.out.later hb9)
    have HS9 := Lib.hid h93
    clear h93
    clear hb9
    clear g0 g1 g2
    have g0 := HM9.out.c0
    have g1 := HM9.out.c1
    have g2 := HM9.out.c2
    go_wp2_with fail
    refine (HV2.out _ hw9).mono ?_
    rintro r wa ⟨Aa, ca, rfl, ha1, ha2, ha3, hba⟩
    have hwa : RowKit.Below w.heap.size w wa := hw9.trans (hba.mono hw9.size)
    have HMa := Lib.hid (HM9.out.later hba)
    have HSa := Lib.hid ha3
    have HS9a := Lib.hid ((HS9.out.below hba).more hba.size)
    have hyl : ys.length ≤ 9223372036854775807 := by omega
    clear ha3 ha1 ha2 h91 h92
    clear hba
    clear g0 g1 g2
    have g0 := HMa.out.c0
    have g1 := HMa.out.c1
    have g2 := HMa.out.c2
    go_wp2_with fail
    refine (same_Error ky _ (HG.out.below hwa hlt)).mono ?_
    rintro r wb ⟨rfl, hbb⟩
    have hwb : RowKit.Below w.heap.size w wb := hwa.trans (hbb.mono hwa.size)
    have HMb := Lib.hid (HMa.out.later hbb)
    have HSab := Lib.hid ((HSa.out.below hbb).more hbb.size)
    have HS9b := Lib.hid ((HS9a.out.below hbb).more hbb.size)
    clear hbb
    clear g0 g1 g2
    have g0 := HMb.out.c0
    have g1 := HMb.out.c1
    have g2 := HMb.out.c2
    go_wp2_with fail
    refine (same_Nodes ys Aa A9 ca c9 wb HSab.out HS9b.out hyl).mono ?_
    rintro r wc ⟨rfl, hbc⟩
    have hwc : RowKit.Below w.heap.size w wc := hwb.trans (hbc.mono hwb.size)
    have HMc := Lib.hid (HMb.out.later hbc)
    clear hbc
    clear g0 g1 g2
    have g0 := HMc.out.c0
    have g1 := HMc.out.c1
    have g2 := HMc.out.c2
    go_wp2_with fail
    refine (HMF.out _).mono ?_
    rintro r wd ⟨rfl, hbd⟩
    have hwd : RowKit.Below w.heap.size w wd := hwc.trans (hbd.mono hwc.size)
    have HMd := Lib.hid (HMc.out.later hbd)
    clear hbd
    clear g0 g1 g2
    have g0 := HMd.out.c0
    have g1 := HMd.out.c1
    have g2 := HMd.out.c2
    go_wp2_with fail
    go_loop [15, 16] (fun fv kk => kk = .int .i64 0 ∧ fv = .bool false) (fun _ _ => 0)
    case atStart => exact ⟨rfl, rfl⟩
    case round =>
      obtain ⟨rfl, rfl⟩ := hrel
      by_cases hlk : 0 < e.length
      · skip
        go_wp2_with fail
        refine (HFR.out _ hwd).mono ?_
        rintro r wx ⟨rfl, hbx⟩
        have hwx : RowKit.Below w.heap.size w wx := hwd.trans (hbx.mono hwd.size)
        clear hbx
        go_wp2_with fail
        refine (HEE.out wx (HG.out.below hwx hlt)).mono ?_
        rintro r wy ⟨rfl, hby⟩
        go_wp2_with fail
        go_ret
        exact ⟨rfl, hwx.trans (hby.mono hwx.size)⟩
      · skip
        go_wp2_with fail
        refine (HFR.out _ hwd).mono ?_
        rintro r wx ⟨rfl, hbx⟩
        have hwx : RowKit.Below w.heap.size w wx := hwd.trans (hbx.mono hwd.size)
        clear hbx
        go_wp2_with fail
        refine (HEE.out wx (HG.out.below hwx hlt)).mono ?_
        rintro r wy ⟨rfl, hby⟩
        go_wp2_with fail
        go_ret
        exact ⟨rfl, hwx.trans (hby.mono hwx.size)⟩
end Go.Proofs.YtnhcjpmamgdeoaaGreatDoor
