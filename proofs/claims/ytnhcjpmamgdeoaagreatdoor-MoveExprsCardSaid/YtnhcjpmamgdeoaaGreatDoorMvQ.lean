/-
  PLAIN WORDS: what is to be moved, piece by piece.
-/
import Derived.Test.YtnhcjpmamgdeoaaGreatDoorVxM
import Derived.Test.YtnhcjpmamgdeoaaGreatDoorNsm
namespace Go.Proofs.YtnhcjpmamgdeoaaGreatDoor
open Go.RowKit

def Mq (vals : Bool) (xs : List Nd) : Prop := (vals = false ∧ ∃ b, Ex (.one b) xs) ∨ (vals = true ∧ (Vx xs ∨ Fx xs))
theorem fx_ex' {p : List Nd} (h : Fx p) : Ex (.one true) p := by
  obtain ⟨f, v, rfl, a, b, c⟩ := h
  exact fx_ex a b (vx_ex c)
theorem Mq.ex {vals : Bool} {xs : List Nd} (h : Mq vals xs) : ∃ b, Ex (.one b) xs := by
  rcases h with ⟨_, h⟩ | ⟨_, h | h⟩
  · exact h
  · exact ⟨_, vx_ex h⟩
  · exact ⟨_, fx_ex' h⟩
/-- A node, and its pieces. -/
structure Cut (vals : Bool) (x : Nd) (ps : List (List Nd)) : Prop where
  mq : ∀ p ∈ ps, Mq vals p
  set : vals = true → x.op = 5 → ∀ p ∈ ps, Vx p
theorem Mq.cut {vals : Bool} {xs : List Nd} (h : Mq vals xs) : ∃ x ps, xs = x :: ps.flatten ∧ Cut vals x ps := by
  rcases h with ⟨rfl, b, h⟩ | ⟨rfl, h | h⟩
  · cases h with
    | one x body _ hs h7 hbd =>
      obtain ⟨ps, hc, rfl, hK⟩ := ex_pieces hbd
      exact ⟨x, ps, rfl, fun p hp => .inl ⟨rfl, _, exk_all hK p hp⟩, by simp⟩
  · cases h with
    | leaf n hs h5 h6 h7 => exact ⟨n, [], by simp, by simp, by simp⟩
    | set n ps hs h5 hn hv hc => exact ⟨n, ps, rfl, fun p hp => .inr ⟨rfl, .inl (hv p hp)⟩, fun _ _ => hv⟩
    | rcd n ps hs h6 hn h1 h2 h3 hr =>
      refine ⟨n, ps, rfl, fun p hp => .inr ⟨rfl, .inr ?_⟩, fun _ h5 => by omega⟩
      obtain ⟨f, v, rfl⟩ := h1 p hp
      exact ⟨f, v, rfl, (h2 f v hp).1, (h2 f v hp).2, h3 f v hp⟩
  · obtain ⟨f, v, rfl, h7, hs, hv⟩ := h
    refine ⟨f, [v], by simp, ?_, fun _ h5 => by omega⟩
    intro p hp
    simp at hp
    subst hp
    exact .inr ⟨rfl, .inl hv⟩
/-- Moved, it is still one. -/
theorem Mq.mov {m : Mv} (hm : mvErr m = 0) {vals : Bool} {xs : List Nd} (h : Mq vals xs) (hl : xs.length ≤ 200) {k : Nat} (hk : xs.length ≤ k) {ys : List Nd} (hy : movGo m vals k xs = some ys) : (∃ b, Ex (.one b) ys) ∧ ys.length ≤ xs.length ∧ (vals = true → Vx xs → Vx ys) := by
  rcases h with ⟨rfl, b, h⟩ | ⟨rfl, h | h⟩
  · rcases ex_mov hm xs.length xs b (Nat.le_refl _) h k hk with h' | ⟨zs, h1, h2, h3⟩
    · rw [h'] at hy; cases hy
    · rw [h1] at hy; injection hy with hy; subst hy
      exact ⟨⟨b, h2⟩, h3, by simp⟩
  · rcases vx_mov hm h hl k hk with h' | ⟨zs, h1, h2, h3⟩
    · rw [h'] at hy; cases hy
    · rw [h1] at hy; injection hy with hy; subst hy
      exact ⟨⟨_, vx_ex h2⟩, h3, fun _ _ => h2⟩
  · obtain ⟨f, v, rfl, h7, hs, hv⟩ := h
    rw [List.length_cons] at hl hk
    match k, hk with
    | k + 1, hk =>
      rw [fld_step m true k (vx_ex hv) h7] at hy
      rcases vx_mov hm hv (by omega) k (by omega) with h' | ⟨zs, h1, h2, h3⟩
      · rw [h'] at hy; cases hy
      · rw [h1] at hy
        injection hy with hy
        subst hy
        refine ⟨⟨_, fx_ex' ⟨ren m f, zs, rfl, by rw [(ren_op m f).1]; exact h7, ren_shapedV hm hs, h2⟩⟩, by simpa using h3, fun _ hx => ?_⟩
        obtain ⟨x, r, e, _, hn7⟩ := hx.ne
        injection e with e1 e2
        subst e1
        exact absurd h7 hn7
theorem ex_count {t : BTag} {xs : List Nd} (h : Ex t xs) : (match t with | .one _ => 0 | .more c _ _ => c) ≤ xs.length := by
  induction h with
  | one n body fld hs h7 hb ih => exact Nat.zero_le _
  | nil r l => exact Nat.le_refl _
  | cons c r l m xs ys hl hx hy ih1 ih2 =>
    simp only at ih2 ⊢
    simp; omega
theorem ex_par {t : BTag} {xs : List Nd} (h : Ex t xs) : ∀ x ∈ xs, 0 ≤ ndParts x ∧ ndParts x ≤ xs.length := by
  induction h with
  | one n body fld hs h7 hb ih =>
    intro x hx
    rcases List.mem_cons.1 hx with rfl | hx
    · have h1 := shapedT_parts x hs
      have h2 := ex_count hb
      simp only at h2
      simp only [List.length_cons]
      omega
    · have := ih x hx
      simp only [List.length_cons]
      omega
  | nil r l => simp
  | cons c r l m xs ys hl hx hy ih1 ih2 =>
    intro x hx'
    rcases List.mem_append.1 hx' with h | h
    · have := ih1 x h; rw [List.length_append]; omega
    · have := ih2 x h; rw [List.length_append]; omega
theorem flat_split {ps : List (List Nd)} {j : Nat} {p : List Nd} (h : ps[j]? = some p) : ps.flatten = (ps.take j).flatten ++ (p ++ (ps.drop (j + 1)).flatten) := by
  have hj := (List.getElem?_eq_some_iff.1 h).1
  have h2 : ps.drop j = p :: ps.drop (j + 1) := by
    rw [List.drop_eq_getElem_cons hj]
    rw [List.getElem?_eq_getElem hj] at h
    injection h with h
    rw [h]
  conv => lhs; rw [← List.take_append_drop j ps, h2]
  simp
theorem flat_step {ps : List (List Nd)} {j : Nat} {p : List Nd} (h : ps[j]? = some p) : (ps.take (j + 1)).flatten.length = (ps.take j).flatten.length + p.length := by
  rw [List.take_add_one, h]; simp
theorem flat_take_le (ps : List (List Nd)) (j : Nat) : (ps.take j).flatten.length ≤ ps.flatten.length := by
  conv => rhs; rw [← List.take_append_drop j ps, List.flatten_append, List.length_append]
  omega
theorem cut_piece {x : Nd} {ps : List (List Nd)} {j : Nat} {p : List Nd} (h : ps[j]? = some p) : piece (x :: ps.flatten) (1 + (ps.take j).flatten.length) (1 + (ps.take j).flatten.length + p.length) = p := by
  have := piece_mid (x :: (ps.take j).flatten) p (ps.drop (j + 1)).flatten
  rw [flat_split h, show x :: ((ps.take j).flatten ++ (p ++ (ps.drop (j + 1)).flatten)) = x :: (ps.take j).flatten ++ p ++ (ps.drop (j + 1)).flatten from by simp]
  rw [List.length_cons, show (ps.take j).flatten.length + 1 = 1 + (ps.take j).flatten.length from by omega] at this
  exact this
theorem cut_skip {x : Nd} {ps : List (List Nd)} {j : Nat} {p : List Nd} (h : ps[j]? = some p) (hp : ∃ b, Ex (.one b) p) : skP ((x :: ps.flatten).drop (1 + (ps.take j).flatten.length)) 1 (1 + (ps.take j).flatten.length) = some (1 + (ps.take j).flatten.length + p.length) := by
  obtain ⟨b, hb⟩ := hp
  have := skP_at hb (ps.drop (j + 1)).flatten (1 + (ps.take j).flatten.length)
  rw [flat_split h, show x :: ((ps.take j).flatten ++ (p ++ (ps.drop (j + 1)).flatten)) = (x :: (ps.take j).flatten) ++ (p ++ (ps.drop (j + 1)).flatten) from by simp]
  rw [show 1 + (ps.take j).flatten.length = (x :: (ps.take j).flatten).length from by rw [List.length_cons]; omega, List.drop_left]
  rw [show 1 + (ps.take j).flatten.length = (x :: (ps.take j).flatten).length from by rw [List.length_cons]; omega] at this
  exact this
theorem allSome_snoc {α β : Type} (f : α → Option β) : ∀ (ps : List α) (qs : List β) (j : Nat) (p : α) (q : β), allSome ((ps.take j).map f) = some qs → ps[j]? = some p → f p = some q → allSome ((ps.take (j + 1)).map f) = some (qs ++ [q])
  | [], qs, j, p, q, _, hp, _ => by simp at hp
  | y :: ps, qs, 0, p, q, h, hp, hq => by
    simp at hp
    subst hp
    have h' : some ([] : List β) = some qs := h
    injection h' with h'
    subst h'
    simp [allSome, hq]
  | y :: ps, qs, j + 1, p, q, h, hp, hq => by
    rw [List.take_succ_cons, List.map_cons] at h ⊢
    cases hy : f y with
    | none => rw [hy] at h; cases h
    | some z =>
      rw [hy, allSome] at h
      rw [allSome]
      cases hr : allSome ((ps.take j).map f) with
      | none => rw [hr] at h; cases h
      | some r =>
        rw [hr] at h
        injection h with h
        subst h
        rw [allSome_snoc f ps r j p q hr (by simpa using hp) hq]
        rfl
theorem allSome_none {α β : Type} (f : α → Option β) : ∀ (ps : List α) (p : α), p ∈ ps → f p = none → allSome (ps.map f) = none
  | y :: ps, p, hp, hn => by
    rw [List.map_cons]
    cases hy : f y with
    | none => rfl
    | some z =>
      rw [allSome]
      rcases List.mem_cons.1 hp with rfl | hp
      · rw [hn] at hy; cases hy
      · rw [allSome_none f ps p hp hn]
theorem nss_map' {ms : List NsM} {qs : List (List Nd)} (h : ms.map NsM.e = qs) : catN ms = qs.flatten := by rw [← h]; simp [catN, List.flatMap]
end Go.Proofs.YtnhcjpmamgdeoaaGreatDoor
