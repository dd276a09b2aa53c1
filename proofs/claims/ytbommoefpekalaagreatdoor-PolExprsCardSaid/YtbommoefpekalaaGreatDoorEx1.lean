/-
  THE WALKS: pol.op.
-/
import Derived.Test.YtbommoefpekalaaGreatDoorPol2
import Derived.Test.YtbommoefpekalaaGreatDoorCln
import Derived.Test.YtbommoefpekalaaGreatDoorP
namespace Go.Proofs.YtbommoefpekalaaGreatDoor
open Go.RowKit Go.Sort

/-- A list of nodes, as it stands in memory. -/
structure NsM where
  A : Option Addr
  c : Nat
  e : List Nd
def NsM.cells (x : NsM) : List Value := [.slice x.A x.e.length x.c]
theorem ns_ok : EncOk NsM.cells 1 := ⟨fun _ => rfl, by omega, fun x u hu => by
  simp only [NsM.cells, List.mem_cons, List.not_mem_nil, or_false] at hu
  subst hu; rfl⟩
abbrev NsSl := SlG NsM.cells 1
structure NsGood (w : World) (B : Nat) (x : NsM) : Prop where
  sl : NdSl w B x.A x.e
  le : x.e.length ≤ x.c
  max : x.c ≤ 9223372036854775807
theorem NsGood.later {w w' : World} {x : NsM} (h : NsGood w w.heap.size x) (hb : Below w.heap.size w w') : NsGood w' w'.heap.size x := ⟨(h.sl.below hb).more hb.size, h.le, h.max⟩
/-- Lists of nodes in memory. -/
structure NssAt (w : World) (A : Option Addr) (ps : List NsM) : Prop where
  sl : NsSl w w.heap.size A ps
  good : ∀ x ∈ ps, NsGood w w.heap.size x
theorem NssAt.later {w w' : World} {A : Option Addr} {ps : List NsM} (h : NssAt w A ps) (hb : Below w.heap.size w w') : NssAt w' A ps :=
  ⟨h.sl.later hb, fun x hx => (h.good x hx).later hb⟩
theorem nsSl_at {w : World} {B : Nat} {A : Option Addr} {xs : List NsM} (h : NsSl w B A xs) {i : Nat} {x : NsM} (hx : xs[i]? = some x) : ∃ b o, A = some ⟨b, o, none⟩ ∧ b < B ∧ w.cell? ⟨b, o + i, none⟩ = some (.slice x.A x.e.length x.c) := by
  obtain ⟨b, o, h1, h2, h3⟩ := h.at_ (List.getElem?_eq_some_iff.1 hx).1
  have := h3 i x hx 0 _ rfl
  rw [Nat.mul_one, Nat.add_zero] at this
  exact ⟨b, o, h1, h2, this⟩
/-- All of some lists. -/
def catN (ps : List NsM) : List Nd := ps.flatMap NsM.e
theorem catN_step {ps : List NsM} {k : Nat} {p : NsM} (h : ps[k]? = some p) : catN (ps.take (k + 1)) = catN (ps.take k) ++ p.e := by
  unfold catN
  rw [List.take_add_one, h, List.flatMap_append]; simp
theorem catN_le {ps : List NsM} (k : Nat) : (catN (ps.take k)).length ≤ (catN ps).length := by
  conv => rhs; rw [← List.take_append_drop k ps]
  unfold catN
  rw [List.flatMap_append, List.length_append]; omega
/-- A list of nodes that a call hands back. -/
def NdsRet (w : World) (r : Ending) (w' : World) (xs : List Nd) : Prop :=
  ∃ A c, r = .returned (.slice A xs.length c) ∧ xs.length ≤ c ∧ c ≤ 9223372036854775807 ∧ NdSl w' w'.heap.size A xs ∧ Below w.heap.size w w'
set_option maxRecDepth 100000 in
set_option maxHeartbeats 1600000 in
theorem pol_op (x : Nd) (ps : List NsM) (A : Option Addr) (c : Nat) (w : World) (hs : NssAt w A ps) (hne : ∀ p ∈ ps, p.e ≠ []) (hl : (catN ps).length ≤ 100000) (hp : ps.length ≤ 100000) :
    Calls Tryz.prog 44 #[.agg #[.int .i64 x.op, .int .i64 x.n, .string x.s, .string x.t], .slice A ps.length c] w fun r w' => NdsRet w r w' (x :: catN ps) := by
  obtain ⟨i0, hi, hz0, hz1, hz2⟩ := info_parts nd_info
  have HS := Lib.hid hs
  have HN := Lib.hid hne
  clear hs hne
  go_enter Tryz.func44, Tryz.ntmps44
  go_wp2_with fail
  go_loopw [5, 12] (fun out kk wr => ∃ k : Nat, kk = .int .i64 k ∧ k ≤ ps.length ∧ Hid (wr.ownsRow w.heap.size 92 4 out (x :: catN (ps.take k)).length (flat (x :: catN (ps.take k)))) ∧ Below w.heap.size w wr)
      (fun _ kk _ => ps.length - (intOf kk).toNat)
  case atStart => exact ⟨0, rfl, by omega, by simpa [catN, Hid, flat, Nd.cells] using World.ownsRow_lit (base := w.heap.size) (e := 92) (size := 4) (w.alloc (.cells #[.int .i64 x.op, .int .i64 x.n, .string x.s, .string x.t] 92)) #[.int .i64 x.op, .int .i64 x.n, .string x.s, .string x.t] 1 (by simp) (by decide) (by simp), by (repeat (first | assumption | exact Below.refl _ _ | apply Below.drew | apply below_drewN | (refine Below.alloc ?_ (by first | exact Nat.le_refl _ | omega | (simp; done) | (simp; omega)) _)))⟩
  case round =>
    obtain ⟨k, rfl, hk, HO, hbr⟩ := hrel
    have hzr := hbr.size
    by_cases hlt : k < ps.length
    · obtain ⟨⟨Ap, cp, e⟩, hx⟩ : ∃ p, ps[k]? = some p := ⟨_, List.getElem?_eq_getElem hlt⟩
      have HST := Lib.hid (catN_step hx)
      have h1 := catN_le (ps := ps) k
      have h2 := catN_le (ps := ps) (k + 1)
      rw [HST.out, List.length_append] at h2
      have hee := HN.out _ (List.mem_of_getElem? hx)
      have hg := (HS.out.good _ (List.mem_of_getElem? hx)).later hbr
      obtain ⟨b, o, rfl, hb, hc0⟩ := nsSl_at (HS.out.later hbr).sl hx
      simp only at hc0 hee h2
      obtain ⟨bn, on, rfl, hbn, -⟩ := hg.sl hee
      have HC := Lib.hid (fun j u hu => NdSl.flat hg.sl j u hu)
      generalize hpk : catN (ps.take k) = pk at *
      clear hpk hg hx hee
      go_wp2_with (at_builtin; refine wpList_append_own _ rfl (.tmp 16) (.tmp 17) 58 rfl w.heap.size 92 i0 _ 4 48 Tryz.underlying58 hi hz0 hz1 hz2 rfl (by omega) u5 (x :: pk).length (flat (x :: pk)) rfl HO.out ⟨bn, on, none⟩ e.length cp (flat e) rfl (flat_len e) HC.out (flat_one_cell e) (by unfold maxLen; simp; omega) (by simp; omega) (by omega) ?_; intro v1 w1 hown1 hgrow1 _)
      have hb2 : RowKit.Below w.heap.size w w1 := hbr.grown hgrow1 hbr.size (fun q hq => (HO.out.lt q hq).1)
      have hv := HST.out
      exact ⟨⟨k + 1, by go_num, by omega, by rw [hv]; simpa [Hid, ← flat_append, Nat.add_right_comm] using hown1, hb2⟩, by simp [intOf]; omega⟩
    · have HT : Hid (ps.take k = ps) := by show _ = _; rw [List.take_of_length_le (by omega)]
      rw [HT.out] at HO
      have hof := own_form (xs := x :: catN ps) (ys := []) (by rw [show flat ([] : List Nd) = [] from rfl, List.append_nil]; exact HO.out)
      rw [List.append_nil] at hof
      obtain ⟨Ao, co, rfl, hco, hcm, hso⟩ := hof
      have HSO := Lib.hid hso
      clear hso HO
      go_wp2_with fail
      go_ret
      exact ⟨Ao, co, rfl, hco, hcm, HSO.out, hbr⟩
end Go.Proofs.YtbommoefpekalaaGreatDoor
