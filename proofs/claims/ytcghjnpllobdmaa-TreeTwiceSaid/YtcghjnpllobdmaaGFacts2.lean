/-
  PLAIN: what was put in its place is its place.
-/
import Derived.Test.YtcghjnpllobdmaaTree7
import Derived.Test.YtcghjnpllobdmaaGFacts
namespace Go.Proofs.Ytcghjnpllobdmaa
open Go.RowKit

theorem ndok_put {e v : List Nd} (he : NdOk e) (hv : NdOk v) (s : ByteArray) : NdOk (putL e s v) := fun x hx => by
  unfold putL at hx
  obtain ⟨n, hn, hx⟩ := List.mem_flatMap.1 hx
  split at hx
  · exact hv x hx
  · rw [List.mem_singleton.1 hx]; exact he n hn
theorem ndok_putV {e v : List Nd} (he : NdOk e) (hv : NdOk v) (s : ByteArray) : NdOk (putV e s v).1 := by
  unfold putV
  repeat' split
  all_goals first | exact ndok_put he hv s | exact fun x hx => by cases hx
theorem varsL_len {e : List Nd} (h : treeErr e = 0) : (varsL e).length ≤ 200 := by
  have h1 := (tree_len h).1
  have h2 := varNames_len e
  have h3 : (varsL e).length ≤ (sorted (varNames e)).length := Lib.compact_length_le _
  rw [sorted_len] at h3
  omega
theorem gone_new {e v : List Nd} {s : ByteArray} {t : List UInt8} (ht : t ∈ varsL (putL e s v)) : ((((varsL e).contains t) && !(t == s.toList)) || (varsL v).contains t) = true := by
  rw [mem_varsL, mem_put] at ht
  rcases ht with ⟨h1, h2⟩ | ⟨h1, h2⟩
  · have : (varsL e).contains t = true := by rw [List.contains_iff_mem, mem_varsL]; exact h1
    simp only [this, Bool.true_and]
    simp [h2]
  · have : (varsL v).contains t = true := by rw [List.contains_iff_mem, mem_varsL]; exact h2
    simp only [this, Bool.or_true]
theorem gone_old {e v : List Nd} {s : ByteArray} {t : List UInt8} (ht : t ∈ varsL e) : ((t == s.toList) || (varsL (putL e s v)).contains t) = true := by
  rw [mem_varsL] at ht
  by_cases h : t = s.toList
  · simp [h]
  · have : (varsL (putL e s v)).contains t = true := by rw [List.contains_iff_mem, mem_varsL, mem_put]; exact .inl ⟨ht, h⟩
    simp only [this, Bool.or_true]
theorem gone_not {e v : List Nd} {s : ByteArray} (hs : (varsL e).contains s.toList = false) : putL e s v = e := by
  rw [Bool.eq_false_iff, ne_eq, List.contains_iff_mem, mem_varsL] at hs
  exact putL_absent v hs
theorem twice_ok {e v w : List Nd} {s t : ByteArray} (h1 : (putV e s v).2 = 0) (h2 : (putV (putV e s v).1 t w).2 = 0) (h3 : (putV e t w).2 = 0) (h4 : (putV v t w).2 = 0) (hst : (s.toList == t.toList) = false) (hw : (varsL w).contains s.toList = false) :
    putV (putV e t w).1 s (putV v t w).1 = (putV (putV e s v).1 t w) := by
  obtain ⟨he, hv, hl1, hp1⟩ := put_ok h1
  obtain ⟨_, hw0, hl2, hp2⟩ := put_ok h2
  obtain ⟨_, _, hl3, hp3⟩ := put_ok h3
  obtain ⟨_, _, hl4, hp4⟩ := put_ok h4
  rw [Bool.eq_false_iff, ne_eq, List.contains_iff_mem, mem_varsL] at hw
  have hst : s.toList ≠ t.toList := by simpa using hst
  have hp := put_twice e v w s t hst hw
  rw [hp1] at hl2 hp2
  have hx : putV (putV e s v).1 t w = (putL (putL e s v) t w, 0) := by rw [hp1] at h2 ⊢; exact Prod.ext hp2 h2
  rw [hx, hp3, hp4]
  unfold putV
  rw [if_neg (by simp [put_tree he hw0 hl3]), if_neg (by simp [put_tree hv hw0 hl4]), ← hp, if_neg (by omega)]
set_option maxHeartbeats 800000 in
theorem among_enc (x : List UInt8) (ss : List (List UInt8)) (A : Option Addr) (c : Nat) (w : World) (h1 : StrSl w w.heap.size A ss) (l1 : ss.length ≤ 9223372036854775807) :
    Calls Try.prog 15 #[encStr x, .slice A ss.length c] w fun r w' => r = .returned (.bool (ss.contains x)) ∧ RowKit.Below w.heap.size w w' := by
  have := law_among ⟨x.toArray⟩ ss A c w h1 l1
  rw [show (⟨x.toArray⟩ : ByteArray).toList = x from by rw [ByteArray.toList_mk]] at this
  exact this
end Go.Proofs.Ytcghjnpllobdmaa
