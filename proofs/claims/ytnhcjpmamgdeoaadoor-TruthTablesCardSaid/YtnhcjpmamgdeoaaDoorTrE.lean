/-
  THE WALKS: truth.rows and its iterator; Table, Ones.
-/
import Derived.Test.YtnhcjpmamgdeoaaDoorTrC
namespace Go.Proofs.YtnhcjpmamgdeoaaDoor
open Go.RowKit Go.Sort Go.Shelf

attribute [local go_sem] Oper.semAt_some

theorem tabB_step (g : (List UInt8 → Bool) → Bool) (ss : List (List UInt8)) (k : Nat) (hk : k < 2 ^ ss.length) : (tabB g ss).take (k + 1) = (tabB g ss).take k ++ [g (vB ss noneV k)] := by
  rw [List.take_add_one]
  have : (tabB g ss)[k]? = some (g (vB ss noneV k)) := by unfold tabB; rw [List.getElem?_map, List.getElem?_range hk]; rfl
  rw [this]; rfl
/-- The ways in which the atoms can be, one behind the other. -/
structure RowsAt (W : World) (n₀ nb eb : Nat) (A : Option Addr) (e : List Nd) (c : Nat) (An : Option Addr) (ss : List (List UInt8)) (cn : Nat) : Prop where
  nc : W.cell? ⟨nb, 0, none⟩ = some (.slice An ss.length cn)
  ec : W.cell? ⟨eb, 0, none⟩ = some (.slice A e.length c)
  es : NdSl W n₀ A e
  ns : StrSl W n₀ An ss
  nl : nb < n₀
  el : eb < n₀
theorem RowsAt.later {W W' : World} {n₀ nb eb : Nat} {A : Option Addr} {e : List Nd} {c : Nat} {An : Option Addr} {ss : List (List UInt8)} {cn : Nat} (h : RowsAt W n₀ nb eb A e c An ss cn) (hb : RowKit.Below n₀ W W') : RowsAt W' n₀ nb eb A e c An ss cn :=
  ⟨(hb.cell (p := ⟨nb, 0, none⟩) h.nl).trans h.nc, (hb.cell (p := ⟨eb, 0, none⟩) h.el).trans h.ec, h.es.below hb, h.ns.below hb, h.nl, h.el⟩
set_option maxRecDepth 100000 in
set_option maxHeartbeats 2000000 in
theorem rows1_in (l nb eb n₀ : Nat) (A : Option Addr) (e : List Nd) (c : Nat) (An : Option Addr) (ss : List (List UInt8)) (cn : Nat) (f : Fm) (hf : f.Ok) (he : e = f.enc) (h6 : ss.length ≤ 6) (hc : e.length ≤ c) (hcm : c ≤ 9223372036854775807) (hcn : cn ≤ 9223372036854775807)
    (J Jx : List Bool → World → Prop)
    (hY : ∀ pre x W, J pre W → pre.length < (tabB (evL e) ss).length → YieldAt Fence.wide 7 Tryd.prog l #[Value.bool x] W fun r W' =>
      (r = .returned (.bool true) ∧ J (pre ++ [x]) W' ∧ RowKit.Below n₀ W W') ∨ (r = .returned (.bool false) ∧ Jx (pre ++ [x]) W'))
    (W : World) (hJ : AbidesFrom W.heap.size J) (hn : n₀ ≤ W.heap.size) (hR : RowsAt W n₀ nb eb A e c An ss cn) (h0 : J [] W) :
    CallsIn Fence.wide 8 Tryd.prog 38 #[.func (.yield l) #[] #[], .pointer (some ⟨nb, 0, none⟩), .pointer (some ⟨eb, 0, none⟩)] W fun r W' => (∃ v, r = .returned v) ∧
      ((∃ ys, ys = tabB (evL e) ss ∧ J ys W') ∨ (∃ pre, True ∧ Jx pre W')) := by
  have hro : Fence.wide.round = none := rfl
  have HR := Lib.hid hR
  have HE := Lib.hid he
  obtain ⟨p2, hp2⟩ : ∃ p2 : Nat, 2 ^ ss.length = p2 := ⟨_, rfl⟩
  have HTL : Hid ((tabB (evL e) ss).length = p2) := by show _ = _; rw [tabB_len, hp2]
  have hp6 : p2 ≤ 64 := by rw [← hp2]; exact Nat.pow_le_pow_right (by omega) h6
  have HP2 := Lib.hid hp2
  have c0 := hR.nc
  have c1 := hR.ec
  clear hR he
  refine callsIn_of_wp Tryd.func38 rfl trivial ?_ hro
  simp only [Tryd.ntmps38, List.size_toArray, List.length_cons, List.length_nil, Nat.reduceAdd, Nat.reduceSub, Array.replicate_succ, Array.replicate_zero, List.push_toArray, List.append_toArray, List.nil_append, List.cons_append]
  have s1 : IntKind.i64.wrap (2 ^ ss.length) = (p2 : Int) := by
    rw [show ((2 : Int) ^ ss.length) = ((2 ^ ss.length : Nat) : Int) from by simp, hp2]
    exact IntWalk.i64_in _ (by omega)
  clear hp2
  gi_wp2
  gi_loopw [9] (fun kk wr => ∃ k : Nat, kk = .int .i64 k ∧ k ≤ p2 ∧ J ((tabB (evL e) ss).take k) wr ∧ RowKit.Below n₀ W wr) (fun kk _ => p2 - (intOf kk).toNat)
  case atStart => exact ⟨0, rfl, by omega, h0, RowKit.Below.refl _ _⟩
  case round =>
    obtain ⟨k, rfl, hk, hJk, hbr⟩ := hrel
    have hRr := HR.out.later hbr
    have d0 := hRr.nc
    have d1 := hRr.ec
    have hWr : W.heap.size ≤ wr.heap.size := by have := hbr.size; omega
    clear c0 c1
    by_cases hlt : k < p2
    · have HB := Blk.new wr 82 (wkV A e.length c An ss.length cn k)
      have HN := Lib.hid (next_all f hf [] (wr.alloc (.cells (wkV A e.length c An ss.length cn k) 82)) wr.heap.size A c An ss cn k
        (by rw [List.append_nil, ← HE.out]; exact HB)
        (by rw [List.append_nil, ← HE.out]; exact ((hRr.es.below ((RowKit.Below.refl _ _).alloc (by omega) _)).more (by omega)))
        ((hRr.ns.below ((RowKit.Below.refl _ _).alloc (by omega) _)).more (by omega)) h6 (by rw [List.append_nil, ← HE.out]; exact hc) hcm (by rw [HP2.out]; exact hlt) hcn)
      have HST := Lib.hid (tabB_step (evL e) ss k (by rw [HP2.out]; exact hlt))
      have HEV : Hid (f.ev (vB ss noneV k) = evL e (vB ss noneV k)) := by show _ = _; rw [HE.out, evL_enc _ hf]
      rw [HEV.out] at HN
      generalize evL e (vB ss noneV k) = x at HN HST
      gi_wp2_with (refine ⟨trivial, ?_⟩; gi_at_call 39; refine (callsIn_wide.2 HN.out).mono ?_; rintro r w2 ⟨rfl, A2, c2, hb2, hs2, hc2, hcm2, ho2⟩; have hbw : RowKit.Below wr.heap.size wr w2 := ((RowKit.Below.refl _ _).alloc (Nat.le_refl _) _).trans (ho2.below (by simp) (Nat.le_refl _)); have hJ2 : J ((tabB (evL e) ss).take k) w2 := hJ _ wr w2 none hJk ⟨hbw.os, hbw.tape, hbw.output, hbw.size, fun q hq _ => hbw.block q hq⟩ (fun r e => by cases e); have hb3 : RowKit.Below n₀ W w2 := hbr.trans (hbw.mono (by omega)); obtain ⟨fn, tmps, assign, body, hy, hRR⟩ := hY _ x w2 hJ2 (by rw [HTL.out, List.length_take, HTL.out]; omega))
      refine hRR.mono ?_
      rintro r W3 (⟨rfl, hJ3, hk3⟩ | ⟨rfl, hJx3⟩)
      · gi_wp2
        exact ⟨⟨k + 1, by go_num, by omega, by rw [HST.out]; exact hJ3, hb3.trans hk3⟩, by simp [intOf]; omega⟩
      · gi_wp2
        refine bodyPost_ret (results_none rfl _ _ _) rfl ?_
        exact ⟨⟨_, rfl⟩, .inr ⟨_, trivial, hJx3⟩⟩
    · have HTA : Hid ((tabB (evL e) ss).take k = tabB (evL e) ss) := by show _ = _; rw [List.take_of_length_le (by rw [HTL.out]; omega)]
      gi_wp2
      go_end0
      exact ⟨⟨_, rfl⟩, .inl ⟨_, rfl, by rw [← HTA.out]; exact hJk⟩⟩
set_option maxHeartbeats 1000000 in
theorem truth_rows (A : Option Addr) (n c : Nat) (An : Option Addr) (m cn : Nat) (w : World) : Calls Tryd.prog 26 #[.slice A n c, .slice An m cn] w fun r w' => r = .returned (.func (.func 38) #[] #[.pointer (some ⟨w.heap.size + 1, 0, none⟩), .pointer (some ⟨w.heap.size, 0, none⟩)]) ∧ w' = (w.alloc (.cells #[.slice A n c] 22)).alloc (.cells #[.slice An m cn] 23) := by
  go_enter Tryd.func26, Tryd.ntmps26
  go_wp2_with fail
  go_ret
  exact ⟨rfl, rfl⟩
/-- The rows of a formula, collected. -/
theorem rows_collect (A : Option Addr) (e : List Nd) (c : Nat) (An : Option Addr) (ss : List (List UInt8)) (cn : Nat) (f : Fm) (hf : f.Ok) (he : e = f.enc) (h6 : ss.length ≤ 6) (hc : e.length ≤ c) (hcm : c ≤ 9223372036854775807) (hcn : cn ≤ 9223372036854775807) (w : World)
    (hsl : NdSl w w.heap.size A e) (hss : StrSl w w.heap.size An ss) :
    Calls Tryd.prog 25 #[.func (.func 38) #[] #[.pointer (some ⟨w.heap.size + 1, 0, none⟩), .pointer (some ⟨w.heap.size, 0, none⟩)]] ((w.alloc (.cells #[.slice A e.length c] 22)).alloc (.cells #[.slice An ss.length cn] 23)) fun r w' => BosRet w r w' (tabB (evL e) ss) := by
  obtain ⟨w2, hw2⟩ : ∃ w2, (w.alloc (.cells #[.slice A e.length c] 22)).alloc (.cells #[.slice An ss.length cn] 23) = w2 := ⟨_, rfl⟩
  have hb : RowKit.Below w.heap.size w w2 := by rw [← hw2]; (repeat (first | assumption | exact Below.refl _ _ | apply Below.drew | apply below_drewN | (refine Below.alloc ?_ (by first | exact Nat.le_refl _ | omega | (simp; done) | (simp; omega)) _)))
  have hz : w2.heap.size = w.heap.size + 2 := by rw [← hw2]; simp
  have hR : RowsAt w2 w2.heap.size (w.heap.size + 1) w.heap.size A e c An ss cn := by
    have hs1 := (hsl.below hb).more hb.size
    have hs2 := (hss.below hb).more hb.size
    have c1 := (Blk.new (w.alloc (.cells #[.slice A e.length c] 22)) 23 #[.slice An ss.length cn]).cell 0
    have c2 := ((Blk.new w 22 #[.slice A e.length c]).alloc (.cells #[.slice An ss.length cn] 23)).cell 0
    rw [World.size_alloc, hw2] at c1
    rw [hw2] at c2
    exact ⟨c1, c2, hs1, hs2, by omega, by omega⟩
  rw [hw2]
  have hl : (tabB (evL e) ss).length ≤ 64 := by rw [tabB_len]; exact Nat.pow_le_pow_right (by omega) h6
  refine (collect_b w2 38 #[.pointer (some ⟨w.heap.size + 1, 0, none⟩), .pointer (some ⟨w.heap.size, 0, none⟩)] (tabB (evL e) ss) hl (enters_of Tryd.func38 (by kernel_rfl) rfl)
    (fun l J Jx W hW hJ hJx hY h0 => rows1_in l (w.heap.size + 1) w.heap.size w2.heap.size A e c An ss cn f hf he h6 hc hcm hcn J Jx hY W hJ hW.size (hR.later hW) h0)).mono ?_
  rintro r w' ⟨A', c', h1, h2, h3, h4, h5⟩
  exact ⟨A', c', h1, h2, h3, h4, hb.trans (h5.mono hb.size)⟩
/-- Bools, and the number of what is wrong. -/
def BosBack (w : World) (r : Ending) (w' : World) (xs : List Bool) (k : Int) : Prop :=
  ∃ A c, r = .returned (.tuple #[.slice A xs.length c, errV k]) ∧ xs.length ≤ c ∧ c ≤ 9223372036854775807 ∧ BoSl w' w'.heap.size A xs ∧ RowKit.Below w.heap.size w w'
set_option maxRecDepth 100000 in
set_option maxHeartbeats 3200000 in
theorem truth_Table (e : List Nd) (A : Option Addr) (c : Nat) (ss : List (List UInt8)) (An : Option Addr) (cn : Nat) (w : World) (hc : e.length ≤ c) (hcm : c ≤ 9223372036854775807) (hok : NdOk e) (hsl : NdSl w w.heap.size A e) (hss : StrSl w w.heap.size An ss) (hn : ss.length ≤ cn) (hcn : cn ≤ 9223372036854775807) :
    Calls Tryd.prog 12 #[.slice A e.length c, .slice An ss.length cn] w fun r w' => BosBack w r w' (tableP e ss).1 (frmErr e ss) := by
  have HC := Lib.hid (truth_check e A c w hc hcm hok hsl)
  by_cases ht : treeErr e = 0
  · rw [ht] at HC
    have hel := (tree_len ht).1
    have HA := Lib.hid (fun W (hW : RowKit.Below w.heap.size w W) => truth_atoms e A c ss An cn W (by omega) ((hsl.below hW).more hW.size) ((hss.below hW).more hW.size) hn hcn)
    by_cases ha : atomsErr e ss = 0
    · have hf0 : frmErr e ss = 0 := frm_ok.2 ⟨ht, ha⟩
      obtain ⟨f, hf, he⟩ := frm_fm hf0
      have HR := Lib.hid (fun W (hW : RowKit.Below w.heap.size w W) => rows_collect A e c An ss cn f hf he (atoms_ok.1 ha).1 hc hcm hcn W ((hsl.below hW).more hW.size) ((hss.below hW).more hW.size))
      have HT : Hid ((tableP e ss).1 = tabB (evL e) ss) := by show _ = _; unfold tableP; rw [if_neg (by simp [hf0])]
      rw [ha] at HA
      rw [HT.out, hf0]
      clear ht ha hf0 hf he hc hok hsl hss HT
      generalize tabB (evL e) ss = T at HR ⊢
      go_enter Tryd.func12, Tryd.ntmps12
      go_wp2_with fail
      refine HC.out.mono ?_
      rintro r w1 ⟨rfl, hb1⟩
      have t0 := errV_zero
      go_wp2_with fail
      refine (HA.out _ hb1).mono ?_
      rintro r w2 ⟨rfl, hb2⟩
      have hw2 := hb1.trans (hb2.mono hb1.size)
      clear hb1 hb2
      go_wp2_with fail
      refine (truth_rows A e.length c An ss.length cn w2).mono ?_
      rintro r w3 ⟨rfl, rfl⟩
      go_wp2_with fail
      refine (HR.out _ hw2).mono ?_
      rintro r w4 ⟨A4, c4, rfl, h41, h42, h43, h44⟩
      have HS := Lib.hid h43
      have H1 := Lib.hid h41
      clear h43 h41
      go_wp2_with fail
      go_ret2
      exact ⟨A4, c4, rfl, H1.out, h42, HS.out, hw2.trans (h44.mono hw2.size)⟩
    · have hf0 : frmErr e ss = atomsErr e ss := by unfold frmErr; rw [if_neg (by simp [ht])]
      have HT : Hid ((tableP e ss).1 = []) := by show _ = _; unfold tableP; rw [if_pos (by rw [hf0]; exact ha)]
      have tk : (atomsErr e ss != 0) = true := by simp [ha]
      rw [HT.out, hf0]
      clear ht ha hf0 hc hok hsl hss HT
      generalize atomsErr e ss = k at HA tk ⊢
      go_enter Tryd.func12, Tryd.ntmps12
      go_wp2_with fail
      refine HC.out.mono ?_
      rintro r w1 ⟨rfl, hb1⟩
      have t0 := errV_zero
      go_wp2_with fail
      refine (HA.out _ hb1).mono ?_
      rintro r w2 ⟨rfl, hb2⟩
      have hw2 := hb1.trans (hb2.mono hb1.size)
      clear hb1 hb2
      go_wp2_with fail
      go_ret2
      exact ⟨none, 0, rfl, Nat.le_refl _, by omega, SlG.nil _ _ _, hw2⟩
  · have hf0 : frmErr e ss = treeErr e := by unfold frmErr; rw [if_pos ht]
    have HT : Hid ((tableP e ss).1 = []) := by show _ = _; unfold tableP; rw [if_pos (by rw [hf0]; exact ht)]
    have tk : (treeErr e != 0) = true := by simp [ht]
    rw [HT.out, hf0]
    clear ht hf0 hc hok hsl hss HT
    generalize treeErr e = k at HC tk ⊢
    go_enter Tryd.func12, Tryd.ntmps12
    go_wp2_with fail
    refine HC.out.mono ?_
    rintro r w1 ⟨rfl, hb1⟩
    go_wp2_with fail
    go_ret2
    exact ⟨none, 0, rfl, Nat.le_refl _, by omega, SlG.nil _ _ _, hb1⟩
end Go.Proofs.YtnhcjpmamgdeoaaDoor
