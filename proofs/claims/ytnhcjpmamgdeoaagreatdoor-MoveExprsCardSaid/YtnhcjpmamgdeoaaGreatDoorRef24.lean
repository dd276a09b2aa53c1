/-
  A PLAIN LAW: to set pieces in their order by counting the names ahead.
  PLAIN LAWS: the names of a record's fields, as 'moved' reads them.
  THE WALK of the reference: moved, at a record.
-/
import Derived.Test.YtnhcjpmamgdeoaaGreatDoorVxM
import Derived.Test.YtnhcjpmamgdeoaaGreatDoorRef22
import Derived.Deep.AppendLies
namespace Go.Proofs.YtnhcjpmamgdeoaaGreatDoor

def rkP (F : List (List Nd)) (s : List UInt8) : Nat := ((namesOf F).filter fun t => decide (t < s)).length
def outN (F : List (List Nd)) (r i : Nat) : List Nd := ((sortN F).take r).flatten ++ ((F.take i).filter fun p => decide (rkP F (headS p).toList = r)).flatten
theorem outN_step {F : List (List Nd)} {r i : Nat} {p : List Nd} (h : F[i]? = some p) : outN F r (i + 1) = outN F r i ++ if rkP F (headS p).toList = r then p else [] := by
  unfold outN
  rw [List.take_add_one, h, List.filter_append, List.flatten_append, ← List.append_assoc]
  congr 1
  by_cases hr : rkP F (headS p).toList = r
  · simp [hr]
  · simp [hr]
theorem rkP_perm {F G : List (List Nd)} (h : F.Perm G) (s : List UInt8) : rkP F s = rkP G s := ((h.map _).filter _).length_eq
theorem rkP_at {T : List (List Nd)} (h : (namesOf T).Pairwise (· < ·)) {s : Nat} (hs : s < T.length) : rkP T (headS T[s]).toList = s := by
  have hl : (namesOf T).length = T.length := by simp [namesOf]
  have hg : (namesOf T)[s]'(by omega) = (headS T[s]).toList := by simp [namesOf]
  have h0 : namesOf T = (namesOf T).take s ++ (headS T[s]).toList :: (namesOf T).drop (s + 1) := by
    rw [← hg, ← List.drop_eq_getElem_cons, List.take_append_drop]
  have h2 := h
  rw [h0, List.pairwise_append] at h2
  obtain ⟨_, hb, hc⟩ := h2
  have hb' := (List.pairwise_cons.1 hb).1
  have e1 : ((namesOf T).take s).filter (fun t => decide (t < (headS T[s]).toList)) = (namesOf T).take s :=
    List.filter_eq_self.2 fun a ha => decide_eq_true (hc a ha _ (by simp))
  have e2 : ((headS T[s]).toList :: (namesOf T).drop (s + 1)).filter (fun t => decide (t < (headS T[s]).toList)) = [] := by
    refine List.filter_eq_nil_iff.2 fun a ha => ?_
    rcases List.mem_cons.1 ha with rfl | ha
    · simp [List.lt_irrefl]
    · have := hb' a ha
      simp only [decide_eq_true_eq]
      exact fun h => List.lt_irrefl _ (List.lt_trans h this)
  unfold rkP
  generalize (headS T[s]).toList = z at *
  rw [h0, List.filter_append, e1, e2, List.append_nil, List.length_take, hl]
  omega
theorem filter_rk {T : List (List Nd)} (hT : (namesOf T).Pairwise (· < ·)) {r : Nat} (hr : r < T.length) : T.filter (fun p => decide (rkP T (headS p).toList = r)) = [T[r]] := by
  have h0 : T = T.take r ++ T[r] :: T.drop (r + 1) := by
    rw [← List.drop_eq_getElem_cons, List.take_append_drop]
  have key : ∀ s (hs : s < T.length), s ≠ r → ¬ decide (rkP T (headS T[s]).toList = r) = true := by
    intro s hs hsr
    rw [rkP_at hT hs]; simpa using hsr
  have e1 : (T.take r).filter (fun p => decide (rkP T (headS p).toList = r)) = [] := by
    refine List.filter_eq_nil_iff.2 fun a ha => ?_
    obtain ⟨s, hs, rfl⟩ := List.getElem_of_mem ha
    rw [List.length_take] at hs
    rw [List.getElem_take]
    exact key s (by omega) (by omega)
  have e2 : (T.drop (r + 1)).filter (fun p => decide (rkP T (headS p).toList = r)) = [] := by
    refine List.filter_eq_nil_iff.2 fun a ha => ?_
    obtain ⟨s, hs, rfl⟩ := List.getElem_of_mem ha
    rw [List.length_drop] at hs
    rw [List.getElem_drop]
    exact key _ (by omega) (by omega)
  have e3 : decide (rkP T (headS T[r]).toList = r) = true := by rw [rkP_at hT]; simp
  have h4 : ∀ f : List Nd → Bool, f T[r] = true → (T.take r).filter f = [] → (T.drop (r + 1)).filter f = [] → T.filter f = [T[r]] := by
    intro f f1 f2 f3
    have := congrArg (List.filter f) h0
    rw [List.filter_append, List.filter_cons_of_pos f1, f2, f3] at this
    exact this
  exact h4 _ e3 e1 e2
theorem outN_end {F : List (List Nd)} (hn : (namesOf F).Nodup) {r : Nat} (hr : r < F.length) : outN F r F.length = outN F (r + 1) 0 := by
  have hp := sortN_perm F
  have hl : (sortN F).length = F.length := hp.length_eq
  have h1 : (F.filter fun p => decide (rkP F (headS p).toList = r)).Perm ((sortN F).filter fun p => decide (rkP F (headS p).toList = r)) := (hp.symm.filter _)
  have h2 : ((sortN F).filter fun p => decide (rkP F (headS p).toList = r)) = [(sortN F)[r]'(by omega)] := by
    have e : (fun p => decide (rkP F (headS p).toList = r)) = fun p => decide (rkP (sortN F) (headS p).toList = r) := by
      funext p; rw [rkP_perm hp]
    rw [e]
    exact filter_rk (sortN_pw hn) (by omega)
  rw [h2] at h1
  have h3 := List.perm_singleton.1 h1
  unfold outN
  rw [List.take_length, h3]
  have hr' : r < (sortN F).length := by omega
  rw [List.take_add_one, List.getElem?_eq_getElem hr', List.flatten_append]
  simp
theorem outN_all (F : List (List Nd)) : outN F F.length 0 = (sortN F).flatten := by
  unfold outN
  rw [← (sortN_perm F).length_eq, List.take_length]; simp
theorem outN_zero (F : List (List Nd)) : outN F 0 0 = [] := by simp [outN]

/-! The fields of a record, moved. -/
def headN (p : List Nd) : Nd := p.headD ⟨0, 0, ⟨#[]⟩, ⟨#[]⟩⟩
def fldsOf (m : Mv) (ps qs : List (List Nd)) : List (List Nd) := List.zipWith (fun p q => ren m (headN p) :: q) ps qs
theorem fld_stepO (m : Mv) (vals : Bool) (k : Nat) (f : Nd) {v : List Nd} (h7 : f.op = 7) (hv : ∃ b, Ex (.one b) v) : movGo m vals (k + 1) (f :: v) = (movGo m vals k v).map (ren m f :: ·) := by
  have h := movGo_any m vals k f (ps := [v]) (by intro p hp; rw [List.mem_singleton.1 hp]; exact hv)
  rw [show [v].flatten = v by simp] at h
  rw [h]
  show (match allSome [movGo m vals k v] with | none => none | some qs => _) = _
  cases movGo m vals k v with
  | none => rfl
  | some q =>
    show (if f.op = 6 then _ else if f.op = 5 ∧ vals = true then _ else _) = _
    rw [if_neg (by omega), if_neg (by omega)]
    simp
theorem flds_all (m : Mv) (vals : Bool) (k : Nat) : ∀ (ps : List (List Nd)), (∀ p ∈ ps, ∃ f v, p = f :: v ∧ f.op = 7 ∧ ∃ b, Ex (.one b) v) →
    allSome (ps.map (movGo m vals (k + 1))) = (allSome (ps.map fun p => movGo m vals k p.tail)).map (fldsOf m ps)
  | [], _ => rfl
  | p :: ps, h => by
    obtain ⟨f, v, rfl, h7, hv⟩ := h p (by simp)
    have ih := flds_all m vals k ps fun q hq => h q (by simp [hq])
    rw [List.map_cons, List.map_cons, List.tail_cons]
    rw [fld_stepO m vals k f h7 hv]
    cases movGo m vals k v with
    | none => rfl
    | some q =>
      rw [Option.map_some, allSome, allSome]
      rw [ih]
      cases allSome (ps.map fun p => movGo m vals k p.tail) <;> rfl

end Go.Proofs.YtnhcjpmamgdeoaaGreatDoor
namespace Go.Proofs.YtnhcjpmamgdeoaaGreatDoor
open Go.RowKit

theorem ren_fld {m : Mv} {f : Nd} (hs : shapedT f = true) (h7 : f.op = 7) : ren m f = ⟨7, 0, if m.what = 1 ∧ f.s.toList = m.fr.toList then m.to_ else f.s, ⟨#[]⟩⟩ := by
  have h : f.n = 0 ∧ f.t = ⟨#[]⟩ := by
    unfold shapedT at hs
    rw [if_neg (by omega), if_neg (by omega), if_neg (by omega), if_pos (by omega)] at hs
    simp only [Bool.and_eq_true, beq_iff_eq, List.isEmpty_iff] at hs
    refine ⟨hs.1.1, ?_⟩
    have := hs.1.2
    rw [ByteArray.toList_eq] at this
    apply ByteArray.ext
    exact Array.toList_inj.1 (by simpa using this)
  have hl : looksB m f = (m.what == 1) := by unfold looksB; rw [if_pos (.inl h7)]
  unfold ren
  rw [hl]
  obtain ⟨op, n, s, t⟩ := f
  obtain ⟨h1, h2⟩ := h
  simp only at h7 h1 h2
  subst h7 h1 h2
  by_cases hc : m.what = 1 ∧ s.toList = m.fr.toList
  · rw [if_pos ⟨by simp [hc.1], hc.2⟩, if_pos hc]
  · rw [if_neg (fun h => hc ⟨by simpa using h.1, h.2⟩), if_neg hc]
/-- The name that 'moved' sets ahead of a part is the field's, renamed. -/
theorem nmV_fld {m : Mv} {e : List Nd} {i : Nat} {x : Nd} {ps : List (List Nd)} (h : NdAtE e i x ps) (h6 : (x.op == 6) = true) {t : Nat} {p : List Nd} (hp : ps[t]? = some p) :
    ren m (headN p) = ⟨7, 0, nmV m e (startE (x.op == 6) i ps t), ⟨#[]⟩⟩ := by
  have hx := h.ex p (List.mem_of_getElem? hp)
  rw [h6] at hx
  cases hx with
  | one f body _ hs h7 _ =>
    have h7' : f.op = 7 := by simpa using h7
    show ren m f = _
    rw [ren_fld hs h7']
    congr 1
    obtain ⟨a, b, rfl, rfl⟩ := h.pre
    have e1 : (a ++ (x :: ps.flatten) ++ b)[startE (x.op == 6) a.length ps t - 1]? = some f := by
      rw [h6]
      unfold startE
      rw [if_pos rfl, show 1 + (a.length + 1 + (ps.take t).flatten.length) - 1 = a.length + (1 + (ps.take t).flatten.length) from by omega]
      rw [List.append_assoc, List.getElem?_append_right (by omega), show a.length + (1 + (ps.take t).flatten.length) - a.length = (ps.take t).flatten.length + 1 from by omega]
      rw [List.cons_append, List.getElem?_cons_succ]
      have h0 : ps = ps.take t ++ (f :: body) :: ps.drop (t + 1) := by
        have := List.take_append_drop t ps
        rw [List.drop_eq_getElem?_toList_append, hp] at this
        simpa using this.symm
      have h1 : ps.flatten = (ps.take t).flatten ++ ((f :: body) ++ (ps.drop (t + 1)).flatten) := by
        conv => lhs; rw [h0]
        rw [List.flatten_append, List.flatten_cons]
      rw [h1, List.append_assoc, List.getElem?_append_right (Nat.le_refl _), Nat.sub_self]
      rfl
    unfold nmV
    rw [e1]

theorem subl_flat {α : Type} {a b : List (List α)} (h : a.Sublist b) : a.flatten.length ≤ b.flatten.length := by
  induction h with
  | slnil => exact Nat.le_refl _
  | cons x _ ih => rw [List.flatten_cons, List.length_append]; omega
  | cons_cons x _ ih => rw [List.flatten_cons, List.flatten_cons, List.length_append, List.length_append]; omega
theorem outN_le (F : List (List Nd)) (r i : Nat) : (outN F r i).length ≤ 2 * F.flatten.length := by
  unfold outN
  rw [List.length_append]
  have h1 : ((sortN F).take r).flatten.length ≤ F.flatten.length := by
    rw [← (sortN_perm F).flatten.length_eq]
    exact subl_flat (List.take_sublist _ _)
  have h2 : ((F.take i).filter fun p => decide (rkP F (headS p).toList = r)).flatten.length ≤ F.flatten.length :=
    subl_flat (List.filter_sublist.trans (List.take_sublist _ _))
  omega
theorem fldsOf_len (m : Mv) : ∀ (ps qs : List (List Nd)), ps.length = qs.length → (fldsOf m ps qs).flatten.length = qs.length + qs.flatten.length
  | [], [], _ => rfl
  | p :: ps, q :: qs, h => by
    have ih := fldsOf_len m ps qs (by simpa using h)
    unfold fldsOf at ih ⊢
    rw [List.zipWith_cons_cons, List.flatten_cons, List.length_append, ih]
    simp; omega
/-- The names ahead among the first ones. -/
def aheadN (L : List (List UInt8)) (s : List UInt8) (j : Nat) : Nat := ((L.take j).filter fun t => decide (t < s)).length
theorem ahead_step {L : List (List UInt8)} {s t : List UInt8} {j : Nat} (h : L[j]? = some t) : aheadN L s (j + 1) = aheadN L s j + if t < s then 1 else 0 := by
  unfold aheadN
  rw [List.take_add_one, h, List.filter_append, List.length_append]
  by_cases hs : t < s <;> simp [hs]
theorem ahead_all (F : List (List Nd)) (s : List UInt8) : aheadN (namesOf F) s F.length = rkP F s := by
  unfold aheadN rkP
  rw [List.take_of_length_le (by simp [namesOf])]
theorem ahead_le (L : List (List UInt8)) (s : List UInt8) (j : Nat) : aheadN L s j ≤ j := by
  unfold aheadN
  exact Nat.le_trans (List.length_filter_le _ _) (by rw [List.length_take]; omega)
theorem run_at_st (b o n c k : Nat) (hk : k < n) (W : World) : (Instr.indexAt 105 (.slice (some ⟨b, o, none⟩) n c) (.int .i64 (k : Int))).run Tryz.prog W = .ok (.pointer (some ⟨b, o + k, none⟩)) W := by
  go_simp
theorem run_at_nsm (b o n c k : Nat) (hk : k < n) (W : World) : (Instr.indexAt 104 (.slice (some ⟨b, o, none⟩) n c) (.int .i64 (k : Int))).run Tryz.prog W = .ok (.pointer (some ⟨b, o + k, none⟩)) W := by
  go_simp
theorem nmV_size {m : Mv} {e : List Nd} (hm : m.to_.size ≤ 140737488351232) (he : NdOk e) (s : Nat) : (nmV m e s).size ≤ 140737488351232 := by
  unfold nmV
  split
  · show (0 : Nat) ≤ _; omega
  · rename_i y hy
    split
    · exact hm
    · exact (he y (List.mem_of_getElem? hy)).1

end Go.Proofs.YtnhcjpmamgdeoaaGreatDoor
namespace Go.Proofs.YtnhcjpmamgdeoaaGreatDoor
open Go.RowKit Go.Sort

set_option maxRecDepth 100000 in
set_option maxHeartbeats 12800000 in
theorem md_rec (m : Mv) (vals : Bool) (k : Nat) (e : List Nd) (i : Nat) (x : Nd) (ps : List (List Nd)) (hR : Rcs m vals k e i x ps) (hx6 : x.op = 6) (hex : ∀ p ∈ ps, ∃ f v, p = f :: v ∧ f.op = 7 ∧ ∃ b, Ex (.one b) v) (w : World) (A : Option Addr) (c : Nat) (hc : e.length ≤ c) (hcm : c ≤ 9223372036854775807) (hsl : NdSl w w.heap.size A e) :
    Calls Tryz.prog 30 #[.agg #[.int .i64 m.what, .string m.fr, .string m.to_], .slice A e.length c, .int .i64 i, .bool vals] w (MdPost w (movGo m vals (k + 2) (x :: ps.flatten))) := by
  obtain ⟨i0, hi, hz0, hz1, hz2⟩ := info_parts kid_info
  obtain ⟨j0, hj, hy0, hy1, hy2⟩ := info_parts nd_info
  obtain ⟨t0', ht, hs0, hs1, hs2⟩ := info_parts st_info
  have e6 : (x.op == 6) = true := by simp [hx6]
  have e5 : (x.op == 5) = false := by simp [hx6]
  have hlk : looksB m x = false := by unfold looksB; rw [if_neg (by omega), if_neg (by omega)]
  obtain ⟨o, ho⟩ : ∃ o, movGo m vals (k + 2) (x :: ps.flatten) = o := ⟨_, rfl⟩
  have HV : Hid (o = match allSome (ps.map (fun p => movGo m vals k (subE (x.op == 6) p))) with | none => none | some qs => if (namesOf (fldsOf m ps qs)).Nodup then some (ren m x :: (sortN (fldsOf m ps qs)).flatten) else none) := by
    show _ = _
    rw [← ho, movGo_any m vals (k + 1) x (fun p hp => ⟨_, hR.at_.ex p hp⟩), flds_all m vals k ps hex, e6]
    show _ = match allSome (ps.map fun p : List Nd => movGo m vals k p.tail) with | none => none | some qs => _
    cases allSome (ps.map fun p : List Nd => movGo m vals k p.tail) with
    | none => rfl
    | some qs =>
      simp only [Option.map_some]
      rw [if_pos hx6]
  have HE6 := Lib.hid e6
  have HE5 := Lib.hid e5
  have HEX := Lib.hid hex
  clear hx6 hex e5
  rw [ho]
  have hx := hR.at_.get
  have hil : i < e.length := (List.getElem?_eq_some_iff.1 hx).1
  have hlen := hR.at_.len
  have hel := hR.hl
  have HR := Lib.hid hR
  have HL := Lib.hid (fun W => r4_Looks m x W hR.hm)
  have HP := Lib.hid (fun W (hW : RowKit.Below w.heap.size w W) => r3_PartsOf e i x ps A c W hR.at_ hR.hl hR.ok ((hsl.below hW).more hW.size))
  have HSL : Hid ((startsGo (x.op == 6) (i + 1) ps).length = ps.length + 1) := starts_len _ ps _
  have HSG : Hid (∀ j, j < ps.length → (startsGo (x.op == 6) (i + 1) ps)[j]? = some (startE (x.op == 6) i ps j)) := fun j hj => starts_get _ ps _ j hj
  have HIH := Lib.hid (fun j p (hp : ps[j]? = some p) W (hW : RowKit.Below w.heap.size w W) => hR.ih j p hp W A c hc hcm ((hsl.below hW).more hW.size))
  have hpl : ps.length ≤ ps.flatten.length := by
    have hne : ∀ p ∈ ps, p ≠ [] := fun p hp => by obtain ⟨y, r, e, _⟩ := ex_ne (hR.at_.ex p hp); rw [e]; simp
    clear HL HP HSL HSG HIH HR hlen hR HV ho
    try clear HEX
    induction ps with
    | nil => simp
    | cons p r ih =>
      have h2 := ih fun q hq => hne q (by simp [hq])
      have h3 := List.length_pos_iff.2 (hne p (by simp))
      rw [List.flatten_cons, List.length_append, List.length_cons]; omega
  have HES : Hid (∀ W, RowKit.Below w.heap.size w W → NdSl W W.heap.size A e) := fun W hW => (hsl.below hW).more hW.size
  obtain ⟨b, of, rfl, hb, hcs⟩ := hsl.at_ hil
  obtain ⟨d0, d1, d2, d3⟩ := hcs i x hx
  obtain ⟨S, hS⟩ : ∃ S, startsGo (x.op == 6) (i + 1) ps = S := ⟨_, rfl⟩
  rw [hS] at HP HSL HSG
  clear hcs hsl hx hR hS ho
  have dd : decide (e.length ≤ i) = false := by simp; omega
  obtain ⟨w0, hw0e⟩ : ∃ w0, (w.alloc (.cells #[.int .i64 m.what, .string m.fr, .string m.to_] 23)).alloc (.cells #[.int .i64 x.op, .int .i64 x.n, .string x.s, .string x.t] 40) = w0 := ⟨_, rfl⟩
  have hw0 : RowKit.Below w.heap.size w w0 := by rw [← hw0e]; (repeat (first | assumption | exact Below.refl _ _ | apply Below.drew | apply below_drewN | (refine Below.alloc ?_ (by first | exact Nat.le_refl _ | omega | (simp; done) | (simp; omega)) _)))
  have hz0' : w.heap.size + 2 = w0.heap.size := by rw [← hw0e]; simp
  have HM0 : Hid (MCap m w.heap.size w0) := by rw [← hw0e]; exact (MCap.new m w).later (by (repeat (first | assumption | exact Below.refl _ _ | apply Below.drew | apply below_drewN | (refine Below.alloc ?_ (by first | exact Nat.le_refl _ | omega | (simp; done) | (simp; omega)) _))))
  have HX0 : Hid (Blk w0 (w.heap.size + 1) 40 #[.int .i64 x.op, .int .i64 x.n, .string x.s, .string x.t]) := by
    have := Blk.new (w.alloc (.cells #[.int .i64 m.what, .string m.fr, .string m.to_] 23)) 40 #[.int .i64 x.op, .int .i64 x.n, .string x.s, .string x.t]
    rw [World.size_alloc, hw0e] at this; exact this
  have HZ0 := Lib.hid hz0'
  have HW0 := Lib.hid hw0e
  obtain ⟨y, hyr⟩ : ∃ y, ren m x = y := ⟨_, rfl⟩
  have HYR := Lib.hid hyr
  have HYR0 := Lib.hid hyr
  have hw01 : w.heap.size + 1 < w0.heap.size := by omega
  clear hz0' hw0e hyr
  have HY : Hid (y = x) := by show _ = _; rw [← HYR.out]; unfold ren; rw [if_neg (fun h => by rw [hlk] at h; cases h.1)]
  rw [hlk] at HL
  clear hlk
  go_enter Tryz.func30, Tryz.ntmps30
  go_wp2_with fail
  rw [HW0.out]
  refine (HL.out _).mono ?_
  rintro r w1 ⟨rfl, hb1⟩
  have HM1 := Lib.hid (HM0.out.later hb1)
  have HX1 := Lib.hid (HX0.out.below hb1 hw01)
  have hw1 : RowKit.Below w.heap.size w w1 := hw0.trans (hb1.mono hw0.size)
  have hw11 : w.heap.size + 1 < w1.heap.size := by have := hb1.size; omega
  have g0 := HM1.out.c0
  have g1 := HM1.out.c1
  have g2 := HM1.out.c2
  have u0 := HX1.out.cell 0
  have u1 := HX1.out.cell 1
  have u2 := HX1.out.cell 2
  have u3 := HX1.out.cell 3
  have uz := HX1.out.frozen 2
  clear hb1
  go_wp2_with fail
  have hwa := hw1
  have HMa := HM1
  have hwa1 := hw11
  have HYa : Hid (Blk w1 (w.heap.size + 1) 40 #[.int .i64 y.op, .int .i64 y.n, .string y.s, .string y.t]) := by rw [HY.out]; exact HX1.out
  obtain ⟨wa, hwae⟩ : ∃ wa, wa = w1 := ⟨_, rfl⟩
  rw [← hwae] at hwa HMa hwa1 HYa ⊢
  clear hwae
  clear g0 g1 g2 u0 u1 u2 u3 uz HM1 HX1 HM0 HX0 hw1 hw11
  refine (HP.out _ hwa).mono ?_
  rintro r w2 ⟨PA, pc, rfl, hp1, hp2, hp3, hb2⟩
  rw [HSL.out] at hp1 ⊢
  have hw2 : RowKit.Below w.heap.size w w2 := hwa.trans (hb2.mono hwa.size)
  obtain ⟨pb, po, hPA, hpb, -⟩ := hp3.at_ (i := 0) (by rw [HSL.out]; omega)
  subst hPA
  have HY2 := Lib.hid (HYa.out.below hb2 hwa1)
  have HM2 := Lib.hid (HMa.out.later hb2)
  have HMB : Hid (MdBox m y w.heap.size pb po S w2) := ⟨HM2.out.c0, HM2.out.c1, HM2.out.c2, HY2.out.cell 0, HY2.out.cell 1, HY2.out.cell 2, HY2.out.cell 3, fun j z hz => by
    obtain ⟨b', o', h1, _, h2⟩ := inSl_at hp3 hz
    injection h1 with h1
    injection h1 with h1 h3
    subst h1 h3
    exact h2⟩
  have hw21 : w.heap.size + 1 < w2.heap.size := by have := hb2.size; omega
  clear hp3 hb2 HY2 HM2 HYa HMa hwa hwa1 HY HYR HP HL d0 d1 d2 d3
  go_wp2_with fail
  go_loopw [12, 13, 14] (fun pv nv iv wr => ∃ (j : Nat) (ms : List NsM) (ss : List ByteArray), iv = .int .i64 j ∧ j ≤ ps.length ∧ ms.length ≤ 199 ∧ ss.length ≤ 199 ∧ Hid (allSome ((ps.take j).map (fun p => movGo m vals k (subE (x.op == 6) p))) = some (ms.map NsM.e)) ∧ Hid (ss.length = j ∧ ∀ t, t < j → ss[t]? = some (nmV m e (startE (x.op == 6) i ps t))) ∧ Hid (Rows2 w2.heap.size pv nv ms ss wr) ∧ RowKit.Below w2.heap.size w2 wr) (fun _ _ iv => fun _ => ps.length - (intOf iv).toNat)
  case atStart => exact ⟨0, [], [], rfl, by omega, by simp, by simp, rfl, ⟨rfl, fun t ht => by omega⟩, ⟨World.ownsRow_nil _ _ _ _, World.ownsRow_nil _ _ _ _, (by intro b hb; cases hb), by simp, by simp⟩, RowKit.Below.refl _ _⟩
  case round =>
    obtain ⟨j, ms, ss, rfl, hj1, hms, hss, HM, HN, HRW, hbr⟩ := hrel
    have hzr := hbr.size
    have hwr : RowKit.Below w.heap.size w wr := hw2.trans (hbr.mono hw2.size)
    have HMr := Lib.hid (HMB.out.later hbr hw21 hpb)
    have hml : Hid (ms.length = j) := by
      show _ = _
      rcases allSome_cases (fun p => movGo m vals k (subE (x.op == 6) p)) (ps.take j) with h | ⟨qs, h, h', _⟩
      · rw [HM.out] at h; cases h
      · rw [HM.out] at h
        injection h with h
        rw [← h] at h'
        rw [List.length_map, List.length_take] at h'
        omega
    have jn : IntKind.i64.wrap (ps.length : Int) = (ps.length : Int) := by rw [IntKind.wrap_i64]; omega
    by_cases hlt : j < ps.length
    · obtain ⟨p, hp⟩ : ∃ p, ps[j]? = some p := ⟨_, List.getElem?_eq_getElem hlt⟩
      have hpn : 0 < p.length := by obtain ⟨y', r, e', _⟩ := ex_ne (HR.out.at_.ex p (List.mem_of_getElem? hp)); rw [e']; simp
      have hfl := flat_take_le ps (j + 1)
      rw [flat_step hp] at hfl
      obtain ⟨s1, hs1'⟩ : ∃ s1, startE (x.op == 6) i ps j = s1 + 1 := ⟨startE (x.op == 6) i ps j - 1, by unfold startE; split <;> omega⟩
      have hs1e : s1 < e.length := by unfold startE at hs1'; split at hs1' <;> omega
      have HSJ := Lib.hid (HSG.out j hlt)
      have q0 := HMr.out.s j _ HSJ.out
      rw [hs1', Int.natCast_add, Int.natCast_one] at q0
      have HC := Lib.hid (HIH.out j p hp)
      rw [hs1'] at HC
      have HC2 : Hid (∀ W, RowKit.Below w.heap.size w W → Calls Tryz.prog 30 #[.agg #[.int .i64 m.what, .string m.fr, .string m.to_], .slice (some ⟨b, of, none⟩) e.length c, .int .i64 ((s1 : Int) + 1), .bool vals] W (MdPost W (movGo m vals k (subE (x.op == 6) p)))) := fun W hW => by
        have := HC.out W hW
        rw [Int.natCast_add, Int.natCast_one] at this
        exact this
      obtain ⟨yy, hyy⟩ : ∃ yy, e[s1]? = some yy := ⟨_, List.getElem?_eq_getElem hs1e⟩
      have HNM : Hid (nmV m e (startE (x.op == 6) i ps j) = if m.what = 1 ∧ yy.s.toList = m.fr.toList then m.to_ else yy.s) := by
        show _ = _
        rw [hs1']
        unfold nmV
        rw [show s1 + 1 - 1 = s1 from rfl, hyy]
      have HYY := Lib.hid hyy
      have HPP := Lib.hid hp
      have m0 := HMr.out.m0
      have m1 := HMr.out.m1
      have m2 := HMr.out.m2
      have qi := run_at_in pb po (ps.length + 1) pc j (by omega)
      have js : IntKind.i64.wrap ((s1 : Int) + 1 - 1) = (s1 : Int) := by rw [show (s1 : Int) + 1 - 1 = s1 from by omega, IntKind.wrap_i64]; omega
      have js2 : IntKind.i64.wrap (s1 : Int) = (s1 : Int) := by rw [IntKind.wrap_i64]; omega
      have hpbr : pb < wr.heap.size := by omega
      have hwlr : w.heap.size < wr.heap.size := by omega
      clear hp hyy HC hs1' hfl HSJ
      go_wp2_with fail
      refine wp_region_hd (S := fun W' => W'.cell? ⟨w.heap.size, 0, none⟩ = some (.int .i64 m.what) ∧ W'.cell? ⟨w.heap.size, 1, none⟩ = some (.string m.fr) ∧ W'.cell? ⟨w.heap.size, 2, none⟩ = some (.string m.to_) ∧ W'.cell? ⟨pb, po + j, none⟩ = some (.int .i64 ((s1 : Int) + 1))) [false, false, false, false, false, false, false, true, false, false, false, false, false] (by kernel_rfl) (by kernel_rfl) (fun _ _ _ _ _ h => h) ⟨m0, m1, m2, q0⟩ (fun hW' => ?_)
      simp only [List.zip_cons_cons, List.zip_nil_left]
      (repeat (first | (refine hd_take (v := ?_) (by rfl) ?_ ?_; rotate_left; (focus (intro W hW; obtain ⟨z0', z1', z2', z3'⟩ := hW; go_simp; try with_reducible rfl)); simp only [Act.put, List.setIfInBounds_toArray, List.set_cons_zero, List.set_cons_succ]) | (refine hd_skip (by rfl) ?_; simp only [Act.put, List.setIfInBounds_toArray, List.set_cons_zero, List.set_cons_succ])))
      refine hd_call (fun K hK => ?_)
      go_simp
      refine (HC2.out _ hwr.drew).mono ?_
      rintro r w3 hpost
      cases hq : movGo m vals k (subE (x.op == 6) p) with
      | none =>
        obtain ⟨rfl, hb3'⟩ := hpost.2 hq
        have hb3 := below_of_drew hb3'
        have HNO : Hid (o = none) := by show _ = _; rw [HV.out, allSome_none _ ps p (List.mem_of_getElem? HPP.out) hq]
        refine hK _ _ ⟨(hb3.cell (p := ⟨w.heap.size, 0, none⟩) hwlr).trans m0, (hb3.cell (p := ⟨w.heap.size, 1, none⟩) hwlr).trans m1, (hb3.cell (p := ⟨w.heap.size, 2, none⟩) hwlr).trans m2, (hb3.cell (p := ⟨pb, po + j, none⟩) hpbr).trans q0⟩ ?_
        have hw3 : RowKit.Below w.heap.size w w3 := hwr.trans (hb3.mono hwr.size)
        clear hK K hpost hb3 hb3' m0 m1 m2 q0 hq
        (repeat (first | (refine hd_take (v := ?_) (by rfl) ?_ ?_; rotate_left; (focus (intro W hW; obtain ⟨z0', z1', z2', z3'⟩ := hW; go_simp; try with_reducible rfl)); simp only [Act.put, List.setIfInBounds_toArray, List.set_cons_zero, List.set_cons_succ]) | (refine hd_skip (by rfl) ?_; simp only [Act.put, List.setIfInBounds_toArray, List.set_cons_zero, List.set_cons_succ])))
        refine hd_nil ?_
        go_wp2_with fail
        go_ret2
        rw [HNO.out]
        exact MdPost.no hw3
      | some q1 =>
        obtain ⟨A3, c3, rfl, hc3, hcm3, hs3, hb3', hn3⟩ := hpost.1 q1 hq
        have hb3 := below_of_drew hb3'
        refine hK _ _ ⟨(hb3.cell (p := ⟨w.heap.size, 0, none⟩) hwlr).trans m0, (hb3.cell (p := ⟨w.heap.size, 1, none⟩) hwlr).trans m1, (hb3.cell (p := ⟨w.heap.size, 2, none⟩) hwlr).trans m2, (hb3.cell (p := ⟨pb, po + j, none⟩) hpbr).trans q0⟩ ?_
        have hw3 : RowKit.Below w2.heap.size w2 w3 := hbr.trans (hb3.mono hzr)
        have hz3 := hw3.size
        have HQ := Lib.hid hq
        have HX3 : Hid (∀ q, (∀ b, q = some b → b < wr.heap.size) → NsOff w3 q ⟨A3, c3, q1⟩) := fun q hq => NsGood.fresh (B := wr.heap.size) ⟨hs3, hc3, hcm3⟩ hn3 hq
        have HR3 := Lib.hid (HRW.out.later hb3)
        have HR4 := Lib.hid (HR3.out.later (by (repeat (first | assumption | exact Below.refl _ _ | apply Below.drew | apply below_drewN | (refine Below.alloc ?_ (by first | exact Nat.le_refl _ | omega | (simp; done) | (simp; omega)) _))) : RowKit.Below w3.heap.size w3 (w3.alloc (.cells #[.slice A3 q1.length c3] 24))))
        have HLP : Hid (∀ b, u12.ownBlock = some b → b < wr.heap.size) := fun b hb => (own_lt HRW.out.p hb).2
        have HLN : Hid (∀ b, u13.ownBlock = some b → b < wr.heap.size) := fun b hb => (own_lt HRW.out.n hb).2
        have HAFT : Hid (∀ (v6 : Value) (w6 : World), w6.ownsRow w2.heap.size 24 1 v6 (ms.length + 1) (flatG NsM.cells ms ++ [.slice A3 q1.length c3]) → (w3.alloc (.cells #[.slice A3 q1.length c3] 24)).grownBy w6 u12.ownBlock → (v6.ownBlock = u12.ownBlock ∨ v6.ownBlock = some (w3.alloc (.cells #[.slice A3 q1.length c3] 24)).heap.size) →
            Hid (Rows2 w2.heap.size v6 u13 (ms ++ [⟨A3, c3, q1⟩]) ss w6) ∧ RowKit.Below w2.heap.size w2 w6 ∧ Hid (w2.heap.size ≤ w6.heap.size) ∧ w6.cell? ⟨w.heap.size, 0, none⟩ = some (.int .i64 m.what) ∧ w6.cell? ⟨w.heap.size, 1, none⟩ = some (.string m.fr) ∧ w6.cell? ⟨w.heap.size, 2, none⟩ = some (.string m.to_) ∧ w6.cell? ⟨pb, po + j, none⟩ = some (.int .i64 ((s1 : Int) + 1)) ∧ w6.cell? ⟨b, of + s1 * 4 + 2, none⟩ = some (.string yy.s)) := fun v6 w6 h1 h2 h3 => by
          have hb6 : RowKit.Below w2.heap.size w2 w6 := (hw3.alloc hz3 _).grown h2 (by simp; omega) (fun q hq => (own_lt HR4.out.p hq).1)
          have hw6 : RowKit.Below w.heap.size w w6 := hw2.trans (hb6.mono hw2.size)
          have hM6 := HMB.out.later hb6 hw21 hpb
          obtain ⟨b', o', hbo, _, hcs⟩ := (HES.out w6 hw6).at_ hs1e
          injection hbo with hbo
          injection hbo with hbo1 hbo2
          subst hbo1 hbo2
          have hq6 := (hb6.cell (p := ⟨pb, po + j, none⟩) hpb).trans ((hbr.cell (p := ⟨pb, po + j, none⟩) hpb).symm.trans q0)
          refine ⟨HR4.out.part (x := ⟨A3, c3, q1⟩) ((HX3.out _ HLP.out).later (by (repeat (first | assumption | exact Below.refl _ _ | apply Below.drew | apply below_drewN | (refine Below.alloc ?_ (by first | exact Nat.le_refl _ | omega | (simp; done) | (simp; omega)) _))))) ((HX3.out _ HLN.out).later (by (repeat (first | assumption | exact Below.refl _ _ | apply Below.drew | apply below_drewN | (refine Below.alloc ?_ (by first | exact Nat.le_refl _ | omega | (simp; done) | (simp; omega)) _))))) h1 h2 h3, hb6, hb6.size, hM6.m0, hM6.m1, hM6.m2, hq6, (hcs s1 yy HYY.out).c2⟩
        have HQA : Hid (allSome ((ps.take (j + 1)).map (fun p => movGo m vals k (subE (x.op == 6) p))) = some ((ms ++ [(⟨A3, c3, q1⟩ : NsM)]).map NsM.e)) := by
          show _ = _
          rw [allSome_snoc (fun p => movGo m vals k (subE (x.op == 6) p)) ps _ j p q1 HM.out HPP.out HQ.out, List.map_append]; rfl
        clear hK K hpost hb3 hb3' m0 m1 m2 q0 hq hs3 hn3 hc3
        (repeat (first | (refine hd_take (v := ?_) (by rfl) ?_ ?_; rotate_left; (focus (intro W hW; obtain ⟨z0', z1', z2', z3'⟩ := hW; go_simp; try with_reducible rfl)); simp only [Act.put, List.setIfInBounds_toArray, List.set_cons_zero, List.set_cons_succ]) | (refine hd_skip (by rfl) ?_; simp only [Act.put, List.setIfInBounds_toArray, List.set_cons_zero, List.set_cons_succ])))
        refine hd_nil ?_
        have hmsl : ms.length < 199 := by have := hml.out; omega
        have hssl : ss.length < 199 := by have := HN.out.1; omega
        by_cases hnm : m.what = 1 ∧ yy.s.toList = m.fr.toList
        · have tw : (m.what == 1) = true := by simp [hnm.1]
          have ty : (yy.s.toList == m.fr.toList) = true := by simp [hnm.2]
          have HNM2 : Hid (nmV m e (startE (x.op == 6) i ps j) = m.to_) := by show _ = _; rw [HNM.out, if_pos hnm]
          clear hnm
          go_wp2_with (first
            | (at_builtin; refine wpList_append_own_at _ rfl (.tmp 66) (.tmp 68) 104 rfl w2.heap.size 24 i0 _ 1 24 Tryz.underlying104 hi hz0 hz1 hz2 rfl (by omega) u12 ms.length (flatG NsM.cells ms) rfl HR4.out.p ⟨w3.heap.size, 0, none⟩ 1 1 [.slice A3 q1.length c3] rfl rfl (cell_one_new _ _ _) (by simp [Value.oneCell']) (by unfold maxLen; omega) (by omega) (by simp; omega) ?_; intro v6 w6 hown6 hgrow6 _ hloc6; obtain ⟨HR6, hb6, HZ6, n0, n1, n2, n3, n4⟩ := HAFT.out v6 w6 hown6 hgrow6 hloc6; clear hown6 hgrow6 hloc6)
            | (at_builtin; refine wpList_append_own_at _ rfl (.tmp 90) (.tmp 92) 105 rfl w2.heap.size 9 t0' _ 1 16 Tryz.underlying105 ht hs0 hs1 hs2 rfl (by omega) u13 ss.length (flatG stC ss) rfl (own_keep HR6.out.n (by (repeat (first | assumption | exact Below.refl _ _ | apply Below.drew | apply below_drewN | (refine Below.alloc ?_ (by first | exact Nat.le_refl _ | omega | (simp; done) | (simp; omega)) _))))) ⟨w6.heap.size, 0, none⟩ 1 1 [.string m.to_] rfl rfl (cell_one_new _ _ _) (by simp [Value.oneCell']) (by unfold maxLen; omega) (by omega) (by have := HZ6.out; simp; omega) ?_; intro v7 w7 hown7 hgrow7 _ hloc7))
          have HR7 := Lib.hid (Rows2.name (s := m.to_) (HR6.out.later (by (repeat (first | assumption | exact Below.refl _ _ | apply Below.drew | apply below_drewN | (refine Below.alloc ?_ (by first | exact Nat.le_refl _ | omega | (simp; done) | (simp; omega)) _))) : RowKit.Below w6.heap.size w6 (w6.alloc (.cells #[.string m.to_] 9)))) hown7 hgrow7 hloc7)
          have hb7 : RowKit.Below w2.heap.size w2 w7 := (hb6.alloc HZ6.out _).grown hgrow7 (by have := HZ6.out; simp; omega) (fun q hq => (own_lt HR6.out.n hq).1)
          have HN7 : Hid ((ss ++ [m.to_]).length = j + 1 ∧ ∀ t, t < j + 1 → (ss ++ [m.to_])[t]? = some (nmV m e (startE (x.op == 6) i ps t))) := ⟨by rw [List.length_append, HN.out.1]; rfl, fun t ht => by
            rcases Nat.lt_or_ge t j with h | h
            · rw [List.getElem?_append_left (by rw [HN.out.1]; exact h)]; exact HN.out.2 t h
            · have : t = j := by omega
              subst this
              rw [List.getElem?_append_right (by rw [HN.out.1]; exact Nat.le_refl _), HN.out.1, Nat.sub_self, HNM2.out]; rfl⟩
          exact ⟨⟨j + 1, ms ++ [⟨A3, c3, q1⟩], ss ++ [m.to_], by go_num, by omega, by simp; omega, by simp; omega, HQA, HN7, HR7, hb7⟩, by simp [intOf]; omega⟩
        · have HNM2 : Hid (nmV m e (startE (x.op == 6) i ps j) = yy.s) := by show _ = _; rw [HNM.out, if_neg hnm]
          by_cases hw1 : m.what = 1
          · have tw : (m.what == 1) = true := by simp [hw1]
            have ty : (yy.s.toList == m.fr.toList) = false := by
              cases h : (yy.s.toList == m.fr.toList) with
              | false => rfl
              | true => exact absurd ⟨hw1, by simpa using h⟩ hnm
            clear hnm hw1
            go_wp2_with (first
              | (at_builtin; refine wpList_append_own_at _ rfl (.tmp 66) (.tmp 68) 104 rfl w2.heap.size 24 i0 _ 1 24 Tryz.underlying104 hi hz0 hz1 hz2 rfl (by omega) u12 ms.length (flatG NsM.cells ms) rfl HR4.out.p ⟨w3.heap.size, 0, none⟩ 1 1 [.slice A3 q1.length c3] rfl rfl (cell_one_new _ _ _) (by simp [Value.oneCell']) (by unfold maxLen; omega) (by omega) (by simp; omega) ?_; intro v6 w6 hown6 hgrow6 _ hloc6; obtain ⟨HR6, hb6, HZ6, n0, n1, n2, n3, n4⟩ := HAFT.out v6 w6 hown6 hgrow6 hloc6; clear hown6 hgrow6 hloc6)
              | (at_builtin; refine wpList_append_own_at _ rfl (.tmp 90) (.tmp 92) 105 rfl w2.heap.size 9 t0' _ 1 16 Tryz.underlying105 ht hs0 hs1 hs2 rfl (by omega) u13 ss.length (flatG stC ss) rfl (own_keep HR6.out.n (by (repeat (first | assumption | exact Below.refl _ _ | apply Below.drew | apply below_drewN | (refine Below.alloc ?_ (by first | exact Nat.le_refl _ | omega | (simp; done) | (simp; omega)) _))))) ⟨w6.heap.size, 0, none⟩ 1 1 [.string yy.s] rfl rfl (cell_one_new _ _ _) (by simp [Value.oneCell']) (by unfold maxLen; omega) (by omega) (by have := HZ6.out; simp; omega) ?_; intro v7 w7 hown7 hgrow7 _ hloc7))
            have HR7 := Lib.hid (Rows2.name (s := yy.s) (HR6.out.later (by (repeat (first | assumption | exact Below.refl _ _ | apply Below.drew | apply below_drewN | (refine Below.alloc ?_ (by first | exact Nat.le_refl _ | omega | (simp; done) | (simp; omega)) _))) : RowKit.Below w6.heap.size w6 (w6.alloc (.cells #[.string yy.s] 9)))) hown7 hgrow7 hloc7)
            have hb7 : RowKit.Below w2.heap.size w2 w7 := (hb6.alloc HZ6.out _).grown hgrow7 (by have := HZ6.out; simp; omega) (fun q hq => (own_lt HR6.out.n hq).1)
            have HN7 : Hid ((ss ++ [yy.s]).length = j + 1 ∧ ∀ t, t < j + 1 → (ss ++ [yy.s])[t]? = some (nmV m e (startE (x.op == 6) i ps t))) := ⟨by rw [List.length_append, HN.out.1]; rfl, fun t ht => by
              rcases Nat.lt_or_ge t j with h | h
              · rw [List.getElem?_append_left (by rw [HN.out.1]; exact h)]; exact HN.out.2 t h
              · have : t = j := by omega
                subst this
                rw [List.getElem?_append_right (by rw [HN.out.1]; exact Nat.le_refl _), HN.out.1, Nat.sub_self, HNM2.out]; rfl⟩
            exact ⟨⟨j + 1, ms ++ [⟨A3, c3, q1⟩], ss ++ [yy.s], by go_num, by omega, by simp; omega, by simp; omega, HQA, HN7, HR7, hb7⟩, by simp [intOf]; omega⟩
          · have tw : (m.what == 1) = false := by simp [hw1]
            clear hnm hw1
            go_wp2_with (first
              | (at_builtin; refine wpList_append_own_at _ rfl (.tmp 66) (.tmp 68) 104 rfl w2.heap.size 24 i0 _ 1 24 Tryz.underlying104 hi hz0 hz1 hz2 rfl (by omega) u12 ms.length (flatG NsM.cells ms) rfl HR4.out.p ⟨w3.heap.size, 0, none⟩ 1 1 [.slice A3 q1.length c3] rfl rfl (cell_one_new _ _ _) (by simp [Value.oneCell']) (by unfold maxLen; omega) (by omega) (by simp; omega) ?_; intro v6 w6 hown6 hgrow6 _ hloc6; obtain ⟨HR6, hb6, HZ6, n0, n1, n2, n3, n4⟩ := HAFT.out v6 w6 hown6 hgrow6 hloc6; clear hown6 hgrow6 hloc6)
              | (at_builtin; refine wpList_append_own_at _ rfl (.tmp 90) (.tmp 92) 105 rfl w2.heap.size 9 t0' _ 1 16 Tryz.underlying105 ht hs0 hs1 hs2 rfl (by omega) u13 ss.length (flatG stC ss) rfl (own_keep HR6.out.n (by (repeat (first | assumption | exact Below.refl _ _ | apply Below.drew | apply below_drewN | (refine Below.alloc ?_ (by first | exact Nat.le_refl _ | omega | (simp; done) | (simp; omega)) _))))) ⟨w6.heap.size, 0, none⟩ 1 1 [.string yy.s] rfl rfl (cell_one_new _ _ _) (by simp [Value.oneCell']) (by unfold maxLen; omega) (by omega) (by have := HZ6.out; simp; omega) ?_; intro v7 w7 hown7 hgrow7 _ hloc7))
            have HR7 := Lib.hid (Rows2.name (s := yy.s) (HR6.out.later (by (repeat (first | assumption | exact Below.refl _ _ | apply Below.drew | apply below_drewN | (refine Below.alloc ?_ (by first | exact Nat.le_refl _ | omega | (simp; done) | (simp; omega)) _))) : RowKit.Below w6.heap.size w6 (w6.alloc (.cells #[.string yy.s] 9)))) hown7 hgrow7 hloc7)
            have hb7 : RowKit.Below w2.heap.size w2 w7 := (hb6.alloc HZ6.out _).grown hgrow7 (by have := HZ6.out; simp; omega) (fun q hq => (own_lt HR6.out.n hq).1)
            have HN7 : Hid ((ss ++ [yy.s]).length = j + 1 ∧ ∀ t, t < j + 1 → (ss ++ [yy.s])[t]? = some (nmV m e (startE (x.op == 6) i ps t))) := ⟨by rw [List.length_append, HN.out.1]; rfl, fun t ht => by
              rcases Nat.lt_or_ge t j with h | h
              · rw [List.getElem?_append_left (by rw [HN.out.1]; exact h)]; exact HN.out.2 t h
              · have : t = j := by omega
                subst this
                rw [List.getElem?_append_right (by rw [HN.out.1]; exact Nat.le_refl _), HN.out.1, Nat.sub_self, HNM2.out]; rfl⟩
            exact ⟨⟨j + 1, ms ++ [⟨A3, c3, q1⟩], ss ++ [yy.s], by go_num, by omega, by simp; omega, by simp; omega, HQA, HN7, HR7, hb7⟩, by simp [intOf]; omega⟩
    · have hjp : j = ps.length := by omega
      have HM2 : Hid (allSome (ps.map (fun p => movGo m vals k (subE (x.op == 6) p))) = some (ms.map NsM.e)) := by
        have := HM.out
        rw [hjp, List.take_of_length_le (Nat.le_refl _)] at this
        exact this
      have hmp : ms.length = ps.length := by rw [hml.out, hjp]
      have hsp0 : ss.length = ps.length := by rw [HN.out.1, hjp]
      have HPE : Hid (∀ z ∈ ms, z.e ≠ []) := by
        intro z hz
        rcases allSome_cases (fun p => movGo m vals k (subE (x.op == 6) p)) ps with h | ⟨qs, h, _, h'⟩
        · rw [HM2.out] at h; cases h
        · rw [HM2.out] at h
          injection h with h
          obtain ⟨p, hp, hpq⟩ := h' z.e (by rw [← h]; exact List.mem_map_of_mem hz)
          obtain ⟨⟨b, hb⟩, _⟩ := HR.out.out p hp _ hpq
          obtain ⟨z', r, e', _⟩ := ex_ne hb
          rw [e']; simp
      obtain ⟨F, hF⟩ : ∃ F, fldsOf m ps (ms.map NsM.e) = F := ⟨_, rfl⟩
      have HOV : Hid (o = if (namesOf F).Nodup then some (y :: (sortN F).flatten) else none) := by
        show _ = _
        rw [HV.out, HM2.out, HYR0.out]; simp only [hF]
      have HFL : Hid (F.length = ps.length) := by
        show _ = _
        rw [← hF]; unfold fldsOf; rw [List.length_zipWith, List.length_map, hmp]; omega
      have HFA : Hid (∀ (t : Nat) (z : NsM) (s : ByteArray), ms[t]? = some z → ss[t]? = some s → F[t]? = some ((⟨7, 0, s, ⟨#[]⟩⟩ : Nd) :: z.e)) := by
        intro t z s hz hs'
        have htl : t < ps.length := by have := (List.getElem?_eq_some_iff.1 hz).1; omega
        obtain ⟨p, hp⟩ : ∃ p, ps[t]? = some p := ⟨_, List.getElem?_eq_getElem htl⟩
        have h1 := HN.out.2 t (by omega)
        rw [hs'] at h1
        injection h1 with h1
        rw [← hF]
        unfold fldsOf
        rw [List.getElem?_zipWith, hp, List.getElem?_map, hz]
        simp only [Option.map_some]
        rw [nmV_fld HR.out.at_ HE6.out hp, h1]
      have HFN : Hid (namesOf F = ss.map ByteArray.toList) := by
        show _ = _
        apply List.ext_getElem?
        intro t
        unfold namesOf
        rw [List.getElem?_map, List.getElem?_map]
        by_cases ht : t < ps.length
        · obtain ⟨z, hz⟩ : ∃ z, ms[t]? = some z := ⟨_, List.getElem?_eq_getElem (by omega)⟩
          obtain ⟨s, hs'⟩ : ∃ s, ss[t]? = some s := ⟨_, List.getElem?_eq_getElem (by omega)⟩
          rw [HFA.out t z s hz hs', hs']; rfl
        · have hfl := HFL.out
          rw [List.getElem?_eq_none (by omega), List.getElem?_eq_none (by omega)]; rfl
      have hfl : F.flatten.length ≤ 400 := by
        have h1 := allSome_len (fun p => movGo m vals k (subE (x.op == 6) p)) _ _ HM2.out (fun p hp q hq => (HR.out.out p hp q hq).2)
        rw [← hF, fldsOf_len m _ _ (by rw [List.length_map, hmp]), List.length_map]
        omega
      have HSZ : Hid (∀ s ∈ ss, s.size ≤ 140737488351232) := by
        intro s hs'
        obtain ⟨t, ht', hs2⟩ := List.getElem_of_mem hs'
        have h1 := HN.out.2 t (by omega)
        rw [List.getElem?_eq_getElem ht', hs2] at h1
        injection h1 with h1
        rw [h1]
        exact nmV_size HR.out.mz.2 HR.out.ok _
      obtain ⟨-, Ap, cp, hv, hcp, hcm', hsp⟩ := own_formG ns_ok HRW.out.p
      subst hv
      obtain ⟨-, An, cn, hv, hcn, hcmn, hsn⟩ := own_formG stC_ok HRW.out.n
      subst hv
      have HNS : Hid (NssAt wr Ap ms) := ⟨hsp, fun z hz => (HRW.out.op z hz).good⟩
      have HSN := Lib.hid hsn
      have x0 := HMr.out.x0
      have x1 := HMr.out.x1
      have x2 := HMr.out.x2
      have x3 := HMr.out.x3
      have hoy : y.op = x.op := by rw [← HYR0.out]; exact (ren_op m x).1
      have e6y : (y.op != 6) = false := by rw [hoy]; have := HE6.out; simpa using this
      have e5y : (y.op == 5) = false := by rw [hoy]; exact HE5.out
      have hwl : w.heap.size + 1 < wr.heap.size := by omega
      have HOL := Lib.hid (World.ownsRow_lit (base := wr.heap.size) (e := 40) (size := 4) wr #[.int .i64 y.op, .int .i64 y.n, .string y.s, .string y.t] 1 (Nat.le_refl _) (by decide) (by simp))
      have HO0 : Hid ((wr.alloc (.cells #[.int .i64 y.op, .int .i64 y.n, .string y.s, .string y.t] 40)).ownsRow wr.heap.size 40 4 (.slice (some ⟨wr.heap.size, 0, none⟩) 1 1) (y :: outN F 0 0).length (flat (y :: outN F 0 0))) := by
        have := HOL.out
        simpa [outN_zero, flat, Nd.cells, Hid] using this
      clear hoy hsp hsn HOL HM HN HRW HV hml HM2 hF
      have HMP := Lib.hid hmp
      have i1 : ms.length ≤ ps.length := by omega
      have i2 : ps.length ≤ ms.length := by omega
      have i3 : ss.length ≤ ms.length := by omega
      have i4 : ms.length ≤ ss.length := by omega
      clear hjp hmp hsp0
      obtain ⟨wo, hwo⟩ : ∃ wo : World, wo = wr := ⟨_, rfl⟩
      rw [← hwo] at HNS HSN HMr x0 x1 x2 x3 hwl HO0 hwr hzr hbr ⊢
      clear hwo
      have hwo : RowKit.Below wo.heap.size wo (wo.alloc (.cells #[.int .i64 y.op, .int .i64 y.n, .string y.s, .string y.t] 40)) := by (repeat (first | assumption | exact Below.refl _ _ | apply Below.drew | apply below_drewN | (refine Below.alloc ?_ (by first | exact Nat.le_refl _ | omega | (simp; done) | (simp; omega)) _)))
      go_wp2_with fail
      go_loopw [18, 22] (fun ov kk wr => ∃ q : Nat, kk = .int .i64 q ∧ q ≤ ms.length ∧ Hid (0 < q → (namesOf F).Nodup) ∧ Hid (wr.ownsRow wo.heap.size 40 4 ov (y :: outN F q 0).length (flat (y :: outN F q 0))) ∧ RowKit.Below wo.heap.size wo wr) (fun _ kk => fun _ => ms.length - (intOf kk).toNat)
      case atStart => exact ⟨0, rfl, by omega, fun h => absurd h (Nat.lt_irrefl _), HO0.out, hwo⟩
      case round =>
        obtain ⟨q, rfl, hq, HND, HOq, hbq⟩ := hrel
        have hzq := hbq.size
        by_cases hlq : q < ms.length
        · obtain ⟨wq, hwq⟩ : ∃ wq : World, wq = wr := ⟨_, rfl⟩
          rw [← hwq] at HOq hbq hzq ⊢
          clear hwq
          go_wp2_with fail
          go_loopw [18, 23] (fun ov kk wr => ∃ a : Nat, kk = .int .i64 a ∧ a ≤ ms.length ∧ Hid (∀ a' b, a' < a → b < ms.length → b ≠ a' → (namesOf F)[b]? ≠ (namesOf F)[a']?) ∧ Hid (wr.ownsRow wo.heap.size 40 4 ov (y :: outN F q a).length (flat (y :: outN F q a))) ∧ RowKit.Below wo.heap.size wo wr) (fun _ kk => fun _ => ms.length - (intOf kk).toNat)
          case atStart => exact ⟨0, rfl, by omega, fun a' b h => absurd h (Nat.not_lt_zero _), HOq.out, hbq⟩
          case round =>
            obtain ⟨a, rfl, ha, HPW, HOa, hba⟩ := hrel
            have hza := hba.size
            by_cases hla : a < ms.length
            · obtain ⟨sa, hsa⟩ : ∃ s, ss[a]? = some s := ⟨_, List.getElem?_eq_getElem (by omega)⟩
              obtain ⟨za, hza'⟩ : ∃ z, ms[a]? = some z := ⟨_, List.getElem?_eq_getElem hla⟩
              obtain ⟨nb, no, hAn, hnb, hcn0⟩ := HSN.out.at_ (i := a) (by omega)
              subst hAn
              have HCN : Hid (∀ W, RowKit.Below wo.heap.size wo W → ∀ (t : Nat) (s : ByteArray), ss[t]? = some s → W.cell? ⟨nb, no + t, none⟩ = some (.string s)) := fun W hW t s hs => by
                have h := hcn0 t s hs 0 (.string s) rfl
                rw [Nat.mul_one] at h
                exact (hW.cell (p := ⟨nb, no + t, none⟩) hnb).trans h
              have HNA : Hid ((namesOf F)[a]? = some sa.toList) := by show _ = _; rw [HFN.out, List.getElem?_map, hsa]; rfl
              have HZA := Lib.hid (HSZ.out sa (List.mem_of_getElem? hsa))
              have HZA' := Lib.hid hza'
              have HSA := Lib.hid hsa
              have HFAA := Lib.hid (HFA.out a za sa hza' hsa)
              clear hcn0 hsa hza'
              obtain ⟨wa, hwa⟩ : ∃ wa : World, wa = wr := ⟨_, rfl⟩
              rw [← hwa] at HOa hba hza ⊢
              clear hwa
              go_wp2_with fail
              go_loopw [24, 25] (fun cv jv wr => ∃ (j n : Nat), cv = .int .i64 n ∧ jv = .int .i64 j ∧ j ≤ ms.length ∧ n ≤ j ∧ Hid (n = aheadN (namesOf F) sa.toList j) ∧ Hid (∀ b, b < j → b ≠ a → (namesOf F)[b]? ≠ (namesOf F)[a]?) ∧ RowKit.Below wa.heap.size wa wr) (fun _ jv => fun _ => ms.length - (intOf jv).toNat)
              case atStart => exact ⟨0, 0, rfl, rfl, by omega, by omega, by simp [aheadN, Hid], fun b h => absurd h (Nat.not_lt_zero _), RowKit.Below.refl _ _⟩
              case round =>
                obtain ⟨j, n, rfl, rfl, hj', hnj, HCT, HNE, hbj⟩ := hrel
                have hzj := hbj.size
                by_cases hlj : j < ms.length
                · obtain ⟨sj, hsj⟩ : ∃ s, ss[j]? = some s := ⟨_, List.getElem?_eq_getElem (by omega)⟩
                  have hwj : RowKit.Below wo.heap.size wo wr := hba.trans (hbj.mono hba.size)
                  have c1 := HCN.out wr hwj j sj hsj
                  have c2 := HCN.out wr hwj a sa HSA.out
                  have q1 := run_at_st nb no ss.length cn j (by omega)
                  have q2 := run_at_st nb no ss.length cn a (by omega)
                  have HNJ : Hid ((namesOf F)[j]? = some sj.toList) := by show _ = _; rw [HFN.out, List.getElem?_map, hsj]; rfl
                  have HTX := Lib.hid (fun W => r1_Texts sj sa W (HSZ.out sj (List.mem_of_getElem? hsj)) HZA.out)
                  obtain ⟨kk, hkk⟩ : ∃ kk, Lib.compareBytes sj.data.toList sa.data.toList = kk := ⟨_, rfl⟩
                  rw [hkk] at HTX
                  have HKK : Hid (kk < 0 ↔ sj.toList < sa.toList) := by
                    show _ ↔ _
                    rw [← hkk, cmp_neg, ByteArray.toList_eq, ByteArray.toList_eq]
                  have HAS : Hid (∀ n', (n' = n + if sj.toList < sa.toList then 1 else 0) → n' = aheadN (namesOf F) sa.toList (j + 1)) := fun n' h => by rw [ahead_step HNJ.out, ← HCT.out]; exact h
                  have hnbr : nb < wr.heap.size := Nat.lt_of_lt_of_le hnb hwj.size
                  clear hsj hkk
                  by_cases hneg : kk < 0
                  · have tk : decide (kk < 0) = true := by simp [hneg]
                    have HN2 : Hid (n + 1 = aheadN (namesOf F) sa.toList (j + 1)) := HAS.out (n + 1) (by rw [if_pos (HKK.out.1 hneg)])
                    clear hneg
                    go_wp2_with fail
                    refine wp_region_hd (S := fun W' => W'.cell? ⟨nb, no + j, none⟩ = some (.string sj) ∧ W'.cell? ⟨nb, no + a, none⟩ = some (.string sa)) [false, false, false, false, false, false, false, false, true, false] (by kernel_rfl) (by kernel_rfl) (fun _ _ _ _ _ h => h) ⟨c1, c2⟩ (fun hW' => ?_)
                    simp only [List.zip_cons_cons, List.zip_nil_left]
                    (repeat (first | (refine hd_take (v := ?_) (by rfl) ?_ ?_; rotate_left; (focus (intro W hW; obtain ⟨z0', z1'⟩ := hW; go_simp; try with_reducible rfl)); simp only [Act.put, List.setIfInBounds_toArray, List.set_cons_zero, List.set_cons_succ]) | (refine hd_skip (by rfl) ?_; simp only [Act.put, List.setIfInBounds_toArray, List.set_cons_zero, List.set_cons_succ])))
                    refine hd_call (fun K hK => ?_)
                    go_simp
                    refine (HTX.out _).mono ?_
                    rintro r w3 ⟨rfl, hb3'⟩
                    have hb3 := below_of_drew hb3'
                    have k1 := (hb3.cell (p := ⟨nb, no + j, none⟩) hnbr).trans c1
                    have k2 := (hb3.cell (p := ⟨nb, no + a, none⟩) hnbr).trans c2
                    refine hK _ _ ⟨k1, k2⟩ ?_
                    have hw3 : RowKit.Below wa.heap.size wa w3 := hbj.trans (hb3.mono hzj)
                    have hnb3 : nb < w3.heap.size := by have := hb3.size; omega
                    clear hK K hb3 hb3' c1 c2
                    (repeat (first | (refine hd_take (v := ?_) (by rfl) ?_ ?_; rotate_left; (focus (intro W hW; obtain ⟨z0', z1'⟩ := hW; go_simp; try with_reducible rfl)); simp only [Act.put, List.setIfInBounds_toArray, List.set_cons_zero, List.set_cons_succ]) | (refine hd_skip (by rfl) ?_; simp only [Act.put, List.setIfInBounds_toArray, List.set_cons_zero, List.set_cons_succ])))
                    refine hd_nil ?_
                    by_cases hja : j = a
                    · have tja : ((j : Int) != (a : Int)) = false := by simp [hja]
                      have HNE2 : Hid (∀ b, b < j + 1 → b ≠ a → (namesOf F)[b]? ≠ (namesOf F)[a]?) := fun b hb hba => HNE.out b (by omega) hba
                      clear hja
                      go_wp2_with fail
                      go_quiet (fail)
                      go_wp2_with fail
                      exact ⟨⟨j + 1, n + 1, by go_num, by go_num, by omega, by omega, HN2, HNE2, by (repeat (first | assumption | exact Below.refl _ _ | apply Below.drew | apply below_drewN | (refine Below.alloc ?_ (by first | exact Nat.le_refl _ | omega | (simp; done) | (simp; omega)) _)))⟩, by simp [intOf]; omega⟩
                    · have tja : ((j : Int) != (a : Int)) = true := by simp; omega
                      by_cases hsa : sj.toList = sa.toList
                      · have tn : (sj.toList == sa.toList) = true := by simp [hsa]
                        have HNO : Hid (o = none) := by
                          show _ = _
                          rw [HOV.out, if_neg]
                          intro hnd
                          obtain ⟨l1, e1⟩ := List.getElem?_eq_some_iff.1 HNJ.out
                          obtain ⟨l2, e2⟩ := List.getElem?_eq_some_iff.1 HNA.out
                          have hp := List.pairwise_iff_getElem.1 hnd
                          rcases Nat.lt_or_ge j a with h | h
                          · exact hp j a l1 l2 h (by rw [e1, e2, hsa])
                          · exact hp a j l2 l1 (by omega) (by rw [e1, e2, hsa])
                        clear hja hsa
                        go_wp2_with fail
                        go_quiet (fail)
                        go_wp2_with fail
                        go_ret2
                        rw [HNO.out]
                        exact MdPost.no ((hwr.trans (hba.mono hwr.size)).trans ((by (repeat (first | assumption | exact Below.refl _ _ | apply Below.drew | apply below_drewN | (refine Below.alloc ?_ (by first | exact Nat.le_refl _ | omega | (simp; done) | (simp; omega)) _))) : RowKit.Below wa.heap.size wa _).mono (Nat.le_trans hwr.size hba.size)))
                      · have tn : (sj.toList == sa.toList) = false := by simp [hsa]
                        have HNE2 : Hid (∀ b, b < j + 1 → b ≠ a → (namesOf F)[b]? ≠ (namesOf F)[a]?) := fun b hb hba => by
                          rcases Nat.lt_or_ge b j with h | h
                          · exact HNE.out b h hba
                          · obtain rfl : b = j := by omega
                            rw [HNJ.out, HNA.out]
                            intro h
                            injection h with h
                            exact hsa h
                        clear hja hsa
                        go_wp2_with fail
                        go_quiet (fail)
                        go_wp2_with fail
                        exact ⟨⟨j + 1, n + 1, by go_num, by go_num, by omega, by omega, HN2, HNE2, by (repeat (first | assumption | exact Below.refl _ _ | apply Below.drew | apply below_drewN | (refine Below.alloc ?_ (by first | exact Nat.le_refl _ | omega | (simp; done) | (simp; omega)) _)))⟩, by simp [intOf]; omega⟩
                  · have tk : decide (kk < 0) = false := by simp; omega
                    have HN2 : Hid (n = aheadN (namesOf F) sa.toList (j + 1)) := HAS.out n (by rw [if_neg (fun h => hneg (HKK.out.2 h))]; rfl)
                    clear hneg
                    go_wp2_with fail
                    refine wp_region_hd (S := fun W' => W'.cell? ⟨nb, no + j, none⟩ = some (.string sj) ∧ W'.cell? ⟨nb, no + a, none⟩ = some (.string sa)) [false, false, false, false, false, false, false, false, true, false] (by kernel_rfl) (by kernel_rfl) (fun _ _ _ _ _ h => h) ⟨c1, c2⟩ (fun hW' => ?_)
                    simp only [List.zip_cons_cons, List.zip_nil_left]
                    (repeat (first | (refine hd_take (v := ?_) (by rfl) ?_ ?_; rotate_left; (focus (intro W hW; obtain ⟨z0', z1'⟩ := hW; go_simp; try with_reducible rfl)); simp only [Act.put, List.setIfInBounds_toArray, List.set_cons_zero, List.set_cons_succ]) | (refine hd_skip (by rfl) ?_; simp only [Act.put, List.setIfInBounds_toArray, List.set_cons_zero, List.set_cons_succ])))
                    refine hd_call (fun K hK => ?_)
                    go_simp
                    refine (HTX.out _).mono ?_
                    rintro r w3 ⟨rfl, hb3'⟩
                    have hb3 := below_of_drew hb3'
                    have k1 := (hb3.cell (p := ⟨nb, no + j, none⟩) hnbr).trans c1
                    have k2 := (hb3.cell (p := ⟨nb, no + a, none⟩) hnbr).trans c2
                    refine hK _ _ ⟨k1, k2⟩ ?_
                    have hw3 : RowKit.Below wa.heap.size wa w3 := hbj.trans (hb3.mono hzj)
                    have hnb3 : nb < w3.heap.size := by have := hb3.size; omega
                    clear hK K hb3 hb3' c1 c2
                    (repeat (first | (refine hd_take (v := ?_) (by rfl) ?_ ?_; rotate_left; (focus (intro W hW; obtain ⟨z0', z1'⟩ := hW; go_simp; try with_reducible rfl)); simp only [Act.put, List.setIfInBounds_toArray, List.set_cons_zero, List.set_cons_succ]) | (refine hd_skip (by rfl) ?_; simp only [Act.put, List.setIfInBounds_toArray, List.set_cons_zero, List.set_cons_succ])))
                    refine hd_nil ?_
                    by_cases hja : j = a
                    · have tja : ((j : Int) != (a : Int)) = false := by simp [hja]
                      have HNE2 : Hid (∀ b, b < j + 1 → b ≠ a → (namesOf F)[b]? ≠ (namesOf F)[a]?) := fun b hb hba => HNE.out b (by omega) hba
                      clear hja
                      go_wp2_with fail
                      go_quiet (fail)
                      go_wp2_with fail
                      exact ⟨⟨j + 1, n, rfl, by go_num, by omega, by omega, HN2, HNE2, by (repeat (first | assumption | exact Below.refl _ _ | apply Below.drew | apply below_drewN | (refine Below.alloc ?_ (by first | exact Nat.le_refl _ | omega | (simp; done) | (simp; omega)) _)))⟩, by simp [intOf]; omega⟩
                    · have tja : ((j : Int) != (a : Int)) = true := by simp; omega
                      by_cases hsa : sj.toList = sa.toList
                      · have tn : (sj.toList == sa.toList) = true := by simp [hsa]
                        have HNO : Hid (o = none) := by
                          show _ = _
                          rw [HOV.out, if_neg]
                          intro hnd
                          obtain ⟨l1, e1⟩ := List.getElem?_eq_some_iff.1 HNJ.out
                          obtain ⟨l2, e2⟩ := List.getElem?_eq_some_iff.1 HNA.out
                          have hp := List.pairwise_iff_getElem.1 hnd
                          rcases Nat.lt_or_ge j a with h | h
                          · exact hp j a l1 l2 h (by rw [e1, e2, hsa])
                          · exact hp a j l2 l1 (by omega) (by rw [e1, e2, hsa])
                        clear hja hsa
                        go_wp2_with fail
                        go_quiet (fail)
                        go_wp2_with fail
                        go_ret2
                        rw [HNO.out]
                        exact MdPost.no ((hwr.trans (hba.mono hwr.size)).trans ((by (repeat (first | assumption | exact Below.refl _ _ | apply Below.drew | apply below_drewN | (refine Below.alloc ?_ (by first | exact Nat.le_refl _ | omega | (simp; done) | (simp; omega)) _))) : RowKit.Below wa.heap.size wa _).mono (Nat.le_trans hwr.size hba.size)))
                      · have tn : (sj.toList == sa.toList) = false := by simp [hsa]
                        have HNE2 : Hid (∀ b, b < j + 1 → b ≠ a → (namesOf F)[b]? ≠ (namesOf F)[a]?) := fun b hb hba => by
                          rcases Nat.lt_or_ge b j with h | h
                          · exact HNE.out b h hba
                          · obtain rfl : b = j := by omega
                            rw [HNJ.out, HNA.out]
                            intro h
                            injection h with h
                            exact hsa h
                        clear hja hsa
                        go_wp2_with fail
                        go_quiet (fail)
                        go_wp2_with fail
                        exact ⟨⟨j + 1, n, rfl, by go_num, by omega, by omega, HN2, HNE2, by (repeat (first | assumption | exact Below.refl _ _ | apply Below.drew | apply below_drewN | (refine Below.alloc ?_ (by first | exact Nat.le_refl _ | omega | (simp; done) | (simp; omega)) _)))⟩, by simp [intOf]; omega⟩
                · have hjm : j = ms.length := by omega
                  have HCN2 : Hid (n = rkP F sa.toList) := by
                    show _ = _
                    rw [HCT.out, hjm, ← ahead_all, HFL.out, HMP.out]
                  have HPW2 : Hid (∀ a' b, a' < a + 1 → b < ms.length → b ≠ a' → (namesOf F)[b]? ≠ (namesOf F)[a']?) := fun a' b h1 h2 h3 => by
                    rcases Nat.lt_or_ge a' a with h | h
                    · exact HPW.out a' b h h2 h3
                    · obtain rfl : a' = a := by omega
                      exact HNE.out b (by omega) h3
                  have hwb : RowKit.Below wo.heap.size wo wr := hba.trans (hbj.mono hza)
                  have HOW := Lib.hid (own_keep HOa.out hbj)
                  have hst := outN_step (r := q) HFAA.out
                  have c2 := HCN.out wr hwb a sa HSA.out
                  have q2 := run_at_st nb no ss.length cn a (by omega)
                  have hnbw : nb < wr.heap.size := Nat.lt_of_lt_of_le hnb hwb.size
                  have hol := outN_le F q a
                  have hol2 := outN_le F q (a + 1)
                  by_cases hnq : n = q
                  · have tnq : ((n : Int) == (q : Int)) = true := by simp [hnq]
                    have HST : Hid (outN F q (a + 1) = outN F q a ++ (⟨7, 0, sa, ⟨#[]⟩⟩ :: za.e)) := by
                      show _ = _
                      rw [hst, if_pos]
                      show rkP F sa.toList = q
                      rw [← HCN2.out, hnq]
                    rw [HST.out, List.length_append, List.length_cons] at hol2
                    have hee := HPE.out _ (List.mem_of_getElem? HZA'.out)
                    have hg := (HNS.out.good _ (List.mem_of_getElem? HZA'.out)).later hwb
                    have hg0 := (HNS.out.good _ (List.mem_of_getElem? HZA'.out))
                    obtain ⟨bq, oq, hAq, hbq', hc0⟩ := nsSl_at HNS.out.sl HZA'.out
                    subst hAq
                    obtain ⟨Az, cz, ez⟩ := za
                    simp only at hc0 hee hol2 hg HST
                    obtain ⟨bn, on, hAz, hbn, -⟩ := hg0.sl hee
                    simp only at hAz
                    subst hAz
                    have q3 := run_at_nsm bq oq ms.length cp a hla
                    have HFL0 := Lib.hid (fun W (hW : RowKit.Below wo.heap.size wo W) j u hu => NdSl.flat (hg0.later hW).sl j u hu)
                    have hlO : (y :: outN F q a).length ≤ 1000 := by simp; omega
                    have HAFT : Hid (∀ (v7 : Value) (w7 : World), w7.ownsRow wo.heap.size 40 4 v7 ((y :: outN F q a).length + 1) (flat (y :: outN F q a) ++ [.int .i64 7, .int .i64 0, .string sa, .string ⟨#[]⟩]) → (wr.alloc (.cells #[.int .i64 7, .int .i64 0, .string sa, .string ⟨#[]⟩] 40)).grownBy w7 u18.ownBlock →
                        Hid (w7.ownsRow wo.heap.size 40 4 v7 ((y :: outN F q a).length + 1) (flat (y :: outN F q a ++ [⟨7, 0, sa, ⟨#[]⟩⟩]))) ∧ RowKit.Below wo.heap.size wo w7 ∧ w7.cell? ⟨bq, oq + a, none⟩ = some (.slice (some ⟨bn, on, none⟩) ez.length cz)) := fun v7 w7 h1 h2 => by
                      have hb7 : RowKit.Below wo.heap.size wo w7 := (hwb.alloc hwb.size _).grown h2 (by simp; have := hwb.size; omega) (fun q hq => (own_lt HOW.out hq).1)
                      refine ⟨?_, hb7, (hb7.cell (p := ⟨bq, oq + a, none⟩) hbq').trans hc0⟩
                      show World.ownsRow _ _ _ _ _ _ _
                      rw [flat_append]
                      exact h1
                    have hez : ez.length ≤ 1000 := by omega
                    have hwbz := hwb.size
                    clear hg hg0 hst hnq hc0 hee
                    generalize outN F q a = L at HOW HAFT HST hlO hol hol2
                    go_wp2_with (first
                      | (at_builtin; refine wpList_append_own _ rfl (.tmp 171) (.tmp 177) 24 rfl wo.heap.size 40 j0 _ 4 48 Tryz.underlying24 hj hy0 hy1 hy2 rfl (by omega) _ (y :: L).length (flat (y :: L)) rfl (HOW.out.alloc _) ⟨wr.heap.size, 0, none⟩ 1 1 [.int .i64 7, .int .i64 0, .string sa, .string ⟨#[]⟩] rfl rfl (World.news_of_block (cs := #[.int .i64 7, .int .i64 0, .string sa, .string ⟨#[]⟩]) (t := 40) (fr := (0, 0)) (heap_alloc_new wr _)) (by simp [Value.oneCell']) (by unfold maxLen; omega) (by omega) (by simp; omega) ?_; intro v7 w7 hown7 hgrow7 _; obtain ⟨HO7, hb7, n7⟩ := HAFT.out v7 w7 hown7 hgrow7; clear hown7 hgrow7)
                      | (at_builtin; refine wpList_append_own _ rfl (.tmp 179) (.tmp 183) 24 rfl wo.heap.size 40 j0 _ 4 48 Tryz.underlying24 hj hy0 hy1 hy2 rfl (by omega) v7 ((y :: L).length + 1) (flat (y :: L ++ [⟨7, 0, sa, ⟨#[]⟩⟩])) rfl HO7.out ⟨bn, on, none⟩ ez.length cz (flat ez) rfl (flat_len ez) (HFL0.out _ hb7) (flat_one_cell ez) (by unfold maxLen; omega) (by omega) hb7.size ?_; intro v8 w8 hown8 hgrow8 _))
                    have hb8 : RowKit.Below wo.heap.size wo w8 := hb7.grown hgrow8 hb7.size (fun q hq => (own_lt HO7.out hq).1)
                    have HO8 : Hid (w8.ownsRow wo.heap.size 40 4 v8 (y :: outN F q (a + 1)).length (flat (y :: outN F q (a + 1)))) := by
                      show World.ownsRow _ _ _ _ _ _ _
                      rw [HST.out]
                      rw [← flat_append] at hown8
                      have e : y :: L ++ [⟨7, 0, sa, ⟨#[]⟩⟩] ++ ez = y :: (L ++ ⟨7, 0, sa, ⟨#[]⟩⟩ :: ez) := by simp
                      rw [e] at hown8
                      have el : (y :: (L ++ (⟨7, 0, sa, ⟨#[]⟩⟩ : Nd) :: ez)).length = (y :: L).length + 1 + ez.length := by simp; omega
                      rw [el]
                      exact hown8
                    exact ⟨⟨a + 1, by go_num, by omega, HPW2, HO8, hb8⟩, by simp [intOf]; omega⟩
                  · have tnq : ((n : Int) == (q : Int)) = false := by simp; omega
                    have HST : Hid (outN F q (a + 1) = outN F q a) := by
                      show _ = _
                      rw [hst, if_neg, List.append_nil]
                      show ¬ rkP F sa.toList = q
                      rw [← HCN2.out]; exact hnq
                    clear hst hnq
                    go_wp2_with fail
                    exact ⟨⟨a + 1, by go_num, by omega, HPW2, by rw [HST.out]; exact HOW.out, hwb⟩, by simp [intOf]; omega⟩
            · have haa : a = ms.length := by omega
              have hnl : (namesOf F).length = ms.length := by unfold namesOf; rw [List.length_map, HFL.out, HMP.out]
              have HND2 : Hid ((namesOf F).Nodup) := by
                show List.Nodup _
                rw [List.Nodup, List.pairwise_iff_getElem]
                intro u v hu hv huv h
                refine HPW.out u v (by omega) (by omega) (by omega) ?_
                rw [List.getElem?_eq_getElem hu, List.getElem?_eq_getElem hv, h]
              have HO2 : Hid (y :: outN F q a = y :: outN F (q + 1) 0) := by
                show _ = _
                rw [← outN_end HND2.out (by rw [HFL.out]; omega), HFL.out, haa, HMP.out]
              rw [HO2.out] at HOa
              go_wp2_with fail
              exact ⟨⟨q + 1, by go_num, by omega, fun _ => HND2.out, HOa, hba⟩, by simp [intOf]; omega⟩
        · have HFq : Hid (F.length = q) := by show _ = _; rw [HFL.out]; omega
          have HOV2 : Hid (o = some (y :: outN F q 0)) := by
            show _ = _
            rw [HOV.out]
            have hn : (namesOf F).Nodup := by
              rcases Nat.eq_zero_or_pos q with h | h
              · have : F = [] := List.eq_nil_of_length_eq_zero (by rw [HFq.out, h])
                rw [this]; exact List.nodup_nil
              · exact HND.out h
            rw [if_pos hn, ← outN_all, HFq.out]
          obtain ⟨Ao, co, hv, hco, hcm4, hso, hnew⟩ := own_form_new HOq.out
          subst hv
          have HSO := Lib.hid hso
          have HNW := Lib.hid hnew
          clear hso HOq hnew
          go_wp2_with fail
          go_ret2
          rw [HOV2.out]
          exact MdPost.yes rfl hco hcm4 HSO.out (hwr.trans (hbq.mono hwr.size)) (fun b o h => by have := HNW.out b o h; have := hwr.size; omega)
end Go.Proofs.YtnhcjpmamgdeoaaGreatDoor
