/-
  THE WALKS of the reference: Looks; two rows side by side.
-/
import Derived.Test.YtnhcjpmamgdeoaaGreatDoorRef19
import Derived.Test.YtnhcjpmamgdeoaaGreatDoorRef20
import Derived.Test.YtnhcjpmamgdeoaaGreatDoorMvN
namespace Go.Proofs.YtnhcjpmamgdeoaaGreatDoor
open Go.RowKit Go.Sort

set_option maxRecDepth 100000 in
set_option maxHeartbeats 1600000 in
theorem r4_Looks (m : Mv) (x : Nd) (w : World) (hm : m.what = 1 ∨ m.what = 2) :
    Calls Tryz.prog 14 #[.agg #[.int .i64 m.what, .string m.fr, .string m.to_], .agg #[.int .i64 x.op, .int .i64 x.n, .string x.s, .string x.t]] w fun e w' => e = .returned (.bool (looksB m x)) ∧ RowKit.Below w.heap.size w w' := by
  obtain ⟨v, hv⟩ : ∃ v, looksB m x = v := ⟨_, rfl⟩
  rw [hv]
  rcases hm with h1 | h1
  · have t1 : (m.what == 1) = true := by simp [h1]
    have HV : Hid (v = ((x.op == 7 || x.op == 21) || x.op == 22)) := by
      show _ = _
      rw [← hv]
      unfold looksB
      by_cases a : x.op = 7 ∨ x.op = 21 ∨ x.op = 22
      · rw [if_pos a, h1]
        rcases a with a | a | a <;> simp [a]
      · rw [if_neg a]
        have e1 : (x.op == 7) = false := by simp; omega
        have e2 : (x.op == 21) = false := by simp; omega
        have e3 : (x.op == 22) = false := by simp; omega
        rw [e1, e2, e3, h1]
        split <;> rfl
    clear h1 hv
    cases e1 : (x.op == 7) <;> cases e2 : (x.op == 21) <;> cases e3 : (x.op == 22)
    all_goals
      rw [e1, e2, e3] at HV
      have HV2 := HV.out
      simp only [Bool.or_self, Bool.or_true, Bool.true_or, Bool.or_false, Bool.false_or] at HV2
      subst HV2
      clear HV
      go_enter Tryz.func14, Tryz.ntmps14
      go_wp2_with fail
      go_ret
      exact ⟨rfl, by (repeat (first | assumption | exact Below.refl _ _ | apply Below.drew | apply below_drewN | (refine Below.alloc ?_ (by first | exact Nat.le_refl _ | omega | (simp; done) | (simp; omega)) _)))⟩
  · have t1 : (m.what == 1) = false := by simp [h1]
    have HV : Hid (v = (x.op == 4 || x.op == 24)) := by
      show _ = _
      rw [← hv]
      unfold looksB
      by_cases a : x.op = 7 ∨ x.op = 21 ∨ x.op = 22
      · rw [if_pos a, h1]
        have e1 : (x.op == 4) = false := by simp; omega
        have e2 : (x.op == 24) = false := by simp; omega
        rw [e1, e2]; rfl
      · rw [if_neg a]
        by_cases c : x.op = 4 ∨ x.op = 24
        · rw [if_pos c, h1]
          rcases c with c | c <;> simp [c]
        · rw [if_neg c]
          have e1 : (x.op == 4) = false := by simp; omega
          have e2 : (x.op == 24) = false := by simp; omega
          rw [e1, e2]; rfl
    clear h1 hv
    cases e1 : (x.op == 4) <;> cases e2 : (x.op == 24)
    all_goals
      rw [e1, e2] at HV
      have HV2 := HV.out
      simp only [Bool.or_self, Bool.or_true, Bool.true_or, Bool.or_false, Bool.false_or] at HV2
      subst HV2
      clear HV
      go_enter Tryz.func14, Tryz.ntmps14
      go_wp2_with fail
      go_ret
      exact ⟨rfl, by (repeat (first | assumption | exact Below.refl _ _ | apply Below.drew | apply below_drewN | (refine Below.alloc ?_ (by first | exact Nat.le_refl _ | omega | (simp; done) | (simp; omega)) _)))⟩
def stC (s : ByteArray) : List Value := [.string s]
theorem stC_ok : EncOk stC 1 := ⟨fun _ => rfl, by omega, fun x u hu => by
  simp only [stC, List.mem_cons, List.not_mem_nil, or_false] at hu
  subst hu; rfl⟩
theorem flat_stC (xs : List ByteArray) : flatG stC xs = xs.map Value.string := by
  induction xs with
  | nil => rfl
  | cons x r ih => show stC x ++ flatG stC r = _; rw [ih]; rfl
/-- Two rows of one's own, in blocks of their own: lists of nodes, and strings. -/
structure Rows2 (base : Nat) (pv nv : Value) (ms : List NsM) (ss : List ByteArray) (w : World) : Prop where
  p : w.ownsRow base 24 1 pv ms.length (flatG NsM.cells ms)
  n : w.ownsRow base 9 1 nv ss.length (flatG stC ss)
  d : ∀ b, pv.ownBlock = some b → nv.ownBlock ≠ some b
  op : ∀ y ∈ ms, NsOff w pv.ownBlock y
  on : ∀ y ∈ ms, NsOff w nv.ownBlock y
theorem own_other {w w' : World} {base k n : Nat} {e : TypeId} {v : Value} {xs : List Value} {q : Option Nat} (h : w.ownsRow base e k v n xs) (hg : w.grownBy w' q) (hq : ∀ b, v.ownBlock = some b → q ≠ some b) : w'.ownsRow base e k v n xs := by
  refine ⟨h.1, ?_⟩
  rcases h.2 with h' | ⟨g, cap, cur, hv, hb, hc, h1, h2, h3, h4⟩
  · exact .inl h'
  · subst hv
    refine .inr ⟨g, cap, cur, rfl, hb, ?_, h1, h2, h3, h4⟩
    rw [hg.block g (Array.getElem?_eq_some_iff.1 hc).1 (fun e => hq g rfl e.symm)]
    exact hc
theorem NsOff.other {w w' : World} {q q' : Option Nat} {x : NsM} (h : NsOff w q x) (h' : NsOff w q' x) (hg : w.grownBy w' q) : NsOff w' q' x :=
  ⟨fun hne => by
    obtain ⟨b, o, e, h1, h2, h3⟩ := h.off hne
    obtain ⟨b', o', e', h1', h2', h3'⟩ := h'.off hne
    rw [e] at e'
    injection e' with e'
    injection e' with e1 e2
    subst e1 e2
    have h2q : ¬ q = some b := h2
    have hk : ∀ i, w'.cell? ⟨b, i, none⟩ = w.cell? ⟨b, i, none⟩ := fun i => World.cell?_of_block (w := w) (a := ⟨b, i, none⟩) (hg.block b h1 (fun e => h2q e.symm))
    refine ⟨b, o, e, Nat.lt_of_lt_of_le h1 hg.size, h2', fun i y hy => ?_⟩
    obtain ⟨q0, q1, q2, q3⟩ := h3 i y hy
    exact ⟨(hk _).trans q0, (hk _).trans q1, (hk _).trans q2, (hk _).trans q3⟩, h.le, h.max⟩
theorem Rows2.later {base : Nat} {pv nv : Value} {ms : List NsM} {ss : List ByteArray} {w w' : World} (h : Rows2 base pv nv ms ss w) (hb : RowKit.Below w.heap.size w w') : Rows2 base pv nv ms ss w' :=
  ⟨own_keep h.p hb, own_keep h.n hb, h.d, fun y hy => (h.op y hy).later hb, fun y hy => (h.on y hy).later hb⟩
/-- One more list is collected. -/
theorem Rows2.part {base : Nat} {pv nv v' : Value} {ms : List NsM} {ss : List ByteArray} {w w' : World} {x : NsM} (h : Rows2 base pv nv ms ss w) (hx : NsOff w pv.ownBlock x) (hx2 : NsOff w nv.ownBlock x)
    (hown : w'.ownsRow base 24 1 v' (ms.length + 1) (flatG NsM.cells ms ++ [.slice x.A x.e.length x.c])) (hg : w.grownBy w' pv.ownBlock) (hloc : v'.ownBlock = pv.ownBlock ∨ v'.ownBlock = some w.heap.size) : Rows2 base v' nv (ms ++ [x]) ss w' := by
  have hnl : ∀ b, nv.ownBlock = some b → b < w.heap.size := fun b hb => (own_lt h.n hb).2
  refine ⟨by rw [List.length_append, ns_snoc]; exact hown, own_other h.n hg (fun b hb hq => h.d b hq hb), ?_, ?_, ?_⟩
  · intro b hb hb2
    rcases hloc with hl | hl
    · rw [hl] at hb; exact h.d b hb hb2
    · rw [hl] at hb; injection hb with hb; have := hnl b hb2; omega
  · intro y hy
    rcases List.mem_append.1 hy with hy | hy
    · exact (h.op y hy).grown hg hloc
    · simp at hy; subst hy; exact hx.grown hg hloc
  · intro y hy
    rcases List.mem_append.1 hy with hy | hy
    · exact (h.op y hy).other (h.on y hy) hg
    · simp at hy; subst hy; exact hx.other hx2 hg
/-- One more name is collected. -/
theorem Rows2.name {base : Nat} {pv nv v' : Value} {ms : List NsM} {ss : List ByteArray} {w w' : World} {s : ByteArray} (h : Rows2 base pv nv ms ss w)
    (hown : w'.ownsRow base 9 1 v' (ss.length + 1) (flatG stC ss ++ [.string s])) (hg : w.grownBy w' nv.ownBlock) (hloc : v'.ownBlock = nv.ownBlock ∨ v'.ownBlock = some w.heap.size) : Rows2 base pv v' ms (ss ++ [s]) w' := by
  have hpl : ∀ b, pv.ownBlock = some b → b < w.heap.size := fun b hb => (own_lt h.p hb).2
  refine ⟨own_other h.p hg (fun b hb => h.d b hb), ?_, ?_, ?_, ?_⟩
  · rw [List.length_append, flatG_append, flatG_one]; exact hown
  · intro b hb hb2
    rcases hloc with hl | hl
    · rw [hl] at hb2; exact h.d b hb hb2
    · rw [hl] at hb2; injection hb2 with hb2; have := hpl b hb; omega
  · intro y hy
    exact (h.on y hy).other (h.op y hy) hg
  · intro y hy
    exact (h.on y hy).grown hg hloc
end Go.Proofs.YtnhcjpmamgdeoaaGreatDoor
