/-
  THE WALKS: small functions of the laws TreeValues, TreeGone, TreeTwice.
-/
import Derived.Test.YtcghjnpllobdmaaTree6
import Derived.Test.YtcghjnpllobdmaaGPlain
namespace Go.Proofs.Ytcghjnpllobdmaa
open Go.RowKit

set_option maxHeartbeats 800000 in
theorem law_among (s : ByteArray) (ss : List (List UInt8)) (A : Option Addr) (c : Nat) (w : World) (h1 : StrSl w w.heap.size A ss) (l1 : ss.length ≤ 9223372036854775807) :
    Calls Try.prog 15 #[.string s, .slice A ss.length c] w fun r w' => r = .returned (.bool (ss.contains s.toList)) ∧ RowKit.Below w.heap.size w w' := by
  have H1 := Lib.hid h1
  clear h1
  go_enter Try.func15, Try.ntmps15
  go_wp2_with fail
  go_loopw [5] (fun kk wr => ∃ k : Nat, kk = .int .i64 k ∧ k ≤ ss.length ∧ Hid ((ss.take k).contains s.toList = false) ∧ RowKit.Below w.heap.size w wr) (fun kk _ => ss.length - (intOf kk).toNat)
  case atStart => exact ⟨0, rfl, by omega, by simp [Hid], RowKit.Below.refl _ _⟩
  case round =>
    obtain ⟨k, rfl, hk, HC, hbr⟩ := hrel
    by_cases hlt : k < ss.length
    · obtain ⟨b, o, rfl, hb, hcs⟩ := (H1.out.below hbr).at_ hlt
      obtain ⟨x, hx⟩ : ∃ x, ss[k]? = some x := ⟨_, List.getElem?_eq_getElem hlt⟩
      have d0 := hcs k x hx
      have HX := Lib.hid hx
      clear hcs hx
      by_cases hss : (x == s.toList) = true
      · have HT : Hid (ss.contains s.toList = true) := by
          show _ = _
          rw [List.contains_iff_mem]
          have := List.mem_of_getElem? HX.out
          rw [eq_of_beq hss] at this; exact this
        go_wp2_with fail
        go_ret
        rw [HT.out]
        exact ⟨rfl, hbr⟩
      · have hss : (x == s.toList) = false := by simpa using hss
        have HT : Hid ((ss.take (k + 1)).contains s.toList = false) := by
          show _ = _
          have h0 := HC.out
          rw [Bool.eq_false_iff, ne_eq, List.contains_iff_mem] at h0 ⊢
          rw [List.take_add_one, HX.out, List.mem_append]
          rintro (h | h)
          · exact h0 h
          · simp at h; subst h; simp at hss
        go_wp2_with fail
        exact ⟨⟨k + 1, by go_num, by omega, HT, hbr⟩, by simp [intOf]; omega⟩
    · go_wp2_with fail
      go_ret
      refine ⟨?_, hbr⟩
      have := HC.out
      rw [List.take_of_length_le (by omega)] at this
      rw [this]
      rfl

set_option maxHeartbeats 800000 in
theorem law_num (n : Int) (w : World) :
    Calls Try.prog 11 #[.int .i64 n] w fun r w' => r = .returned (.agg #[.int .i64 2, .int .i64 n, .string ⟨#[]⟩, .string ⟨#[]⟩]) ∧ RowKit.Below w.heap.size w w' := by
  go_enter Try.func11, Try.ntmps11
  go_wp2
  exact bodyPost_ret (v := .agg #[.int .i64 2, .int .i64 n, .string ⟨#[]⟩, .string ⟨#[]⟩]) (by simp [results, Try.results11, go_sem]) rfl ⟨rfl, by (repeat (first | assumption | exact Below.refl _ _ | apply Below.drew | apply below_drewN | (refine Below.alloc ?_ (by first | exact Nat.le_refl _ | omega | (simp; done) | (simp; omega)) _)))⟩

theorem new_strs (W : World) (t : TypeId) (ss : List (List UInt8)) (cs : Array Value) (h : cs = (ss.map encStr).toArray) : StrSl (W.alloc (.cells cs t)) (W.heap.size + 1) (some ⟨W.heap.size, 0, none⟩) ss := fun _ =>
  ⟨W.heap.size, 0, rfl, Nat.lt_succ_self _, fun i l hl => by
    rw [World.cell?_alloc_new, h, Nat.zero_add, List.getElem?_toArray, List.getElem?_map, hl]; rfl⟩
theorem get_compactUpTo (d : Array (List UInt8)) (m : Nat) : ∀ j, j < m → d[j]! ∈ Lib.compactUpTo d m := by
  induction m with
  | zero => intro j hj; omega
  | succ m ih =>
    intro j hj
    rw [Lib.compactUpTo_succ, List.mem_append]
    by_cases hjm : j < m
    · exact .inl (ih j hjm)
    · obtain rfl : j = m := by omega
      by_cases hk : Lib.keeps d j = true
      · right; rw [if_pos hk]; exact List.mem_singleton.2 rfl
      · left
        unfold Lib.keeps at hk
        have h2 : j ≠ 0 ∧ d[j]! = d[j - 1]! := by simpa using hk
        rw [h2.2]
        exact ih _ (by omega)
theorem mem_compact (zs : List (List UInt8)) (t : List UInt8) : t ∈ Lib.compact zs ↔ t ∈ zs := by
  unfold Lib.compact
  constructor
  · intro h
    unfold Lib.compactUpTo at h
    obtain ⟨j, hj, rfl⟩ := List.mem_map.1 h
    have hj := (List.mem_range.1 (List.mem_filter.1 hj).1)
    rw [getElem!_pos _ _ (by simpa using hj)]
    simp
  · intro h
    obtain ⟨j, hj, rfl⟩ := List.getElem_of_mem h
    have := get_compactUpTo zs.toArray zs.length j hj
    rwa [getElem!_pos _ _ (by simpa using hj)] at this
theorem mem_varsL (e : List Nd) (t : List UInt8) : t ∈ varsL e ↔ t ∈ varNames e := by
  unfold varsL
  rw [mem_compact]
  unfold sorted
  rw [List.mem_mergeSort]
end Go.Proofs.Ytcghjnpllobdmaa
