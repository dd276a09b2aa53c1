/-
  THE WALKS: link.Link: what it hands back.
  PLAIN LAWS of templates filled; the first link of the laws.
-/
import Derived.Test.YtbommoefpekalaaGreatLnk4
import Derived.Test.YtbommoefpekalaaGreatLnk6
namespace Go.Proofs.YtbommoefpekalaaGreat
open Go.RowKit Go.Sort

theorem link_Link (p : Po) (cs : List CdM) (A : Option Addr) (c : Nat) (who what : Ud) (w : World) (hp : p.conds = cs.map CdM.cd) (hz : PoZ p) (hc : CdsAt w w.heap.size A cs) (hl : cs.length ≤ 9223372036854775807) (hu1 : UdOk who) (hu2 : UdOk what) :
    Calls Tryz.prog 5 #[.agg #[.string p.name, .bool p.forbid, .int .i64 p.who.op, .string p.who.ty, .string p.who.uid.ty, .string p.who.uid.id, .int .i64 p.act.op, .string p.act.ty, .string p.act.uid.ty, .string p.act.uid.id, .int .i64 p.what.op, .string p.what.ty, .string p.what.uid.ty, .string p.what.uid.id, .slice A cs.length c], .agg #[.string who.ty, .string who.id], .agg #[.string what.ty, .string what.id]] w fun e w' => PoBack w e w' (linkP p who what).1 (linkP p who what).2 := by
  by_cases hk : polErr p = 0
  · by_cases hk1 : (fillP p.who who).2 = 0
    · by_cases hk2 : (fillP p.what what).2 = 0
      · exact link_good p cs A c who what w hp hz hc hl hu1 hu2 hk hk1 hk2
      · exact link_bad2 p cs A c who what w hp hz hc hl hu1 hu2 hk hk1 hk2
    · exact link_bad1 p cs A c who what w hp hz hc hl hu1 hu2 hk hk1
  · exact link_bad p cs A c who what w hp hz hc hl hu1 hu2 hk
end Go.Proofs.YtbommoefpekalaaGreat
namespace Go.Proofs.YtbommoefpekalaaGreat
open Go.RowKit Go.Sort

theorem fill_ok {s q : Sc} {u : Ud} (h : fillP s u = (q, 0)) (hs : scOk s true = true) : scOk q true = true ∧ slottedP q = false := by
  unfold fillP at h
  by_cases h1 : slottedP s = true
  · rw [if_pos h1] at h
    have h56 : s.op = 5 ∨ s.op = 6 := by simpa [slottedP] using h1
    by_cases h2 : udErr u = 0
    · rw [if_pos h2] at h
      injection h with h _
      subst h
      refine ⟨?_, ?_⟩
      · rcases h56 with h | h <;> simp [scOk, h, udOk, h2, emp, ByteArray.toList_eq]
      · rcases h56 with h | h <;> simp [slottedP, h]
    · rw [if_neg h2] at h
      injection h with _ h
      exact absurd h h2
  · rw [if_neg h1] at h
    injection h with h _
    subst h
    exact ⟨hs, by simpa using h1⟩
theorem pol_ok {p : Po} : polErr p = 0 ↔ nameErr p.name.toList = 0 ∧ scOk p.who true = true ∧ scOk p.act false = true ∧ scOk p.what true = true ∧ p.conds.length ≤ 4 ∧ cdsErr p.conds = 0 := by
  unfold polErr
  by_cases h1 : nameErr p.name.toList = 0
  · rw [if_neg (by simp [h1])]
    by_cases h2 : scOk p.who true = false ∨ scOk p.act false = false ∨ scOk p.what true = false
    · rw [if_pos h2]
      constructor
      · intro h; cases h
      · rintro ⟨_, a, b, c, _⟩
        rcases h2 with h | h | h
        · rw [a] at h; cases h
        · rw [b] at h; cases h
        · rw [c] at h; cases h
    · rw [if_neg h2]
      simp only [not_or, Bool.not_eq_false] at h2
      by_cases h3 : 4 < p.conds.length
      · rw [if_pos h3]
        constructor
        · intro h; cases h
        · rintro ⟨_, _, _, _, a, _⟩; omega
      · rw [if_neg h3]
        exact ⟨fun h => ⟨h1, h2.1, h2.2.1, h2.2.2, by omega, h⟩, fun h => h.2.2.2.2.2⟩
  · rw [if_pos h1]
    exact ⟨fun h => absurd h h1, fun h => absurd h.1 h1⟩
/-- What a link that goes well hands back. -/
theorem link_ok {p q : Po} {who what : Ud} (h : linkP p who what = (q, 0)) : polErr p = 0 ∧ ∃ q1 q2, fillP p.who who = (q1, 0) ∧ fillP p.what what = (q2, 0) ∧ q = ⟨p.name, p.forbid, q1, p.act, q2, p.conds⟩ := by
  unfold linkP at h
  by_cases h1 : polErr p = 0
  · rw [if_neg (by simp [h1])] at h
    by_cases h2 : (fillP p.who who).2 = 0
    · rw [if_neg (by simp [h2])] at h
      by_cases h3 : (fillP p.what what).2 = 0
      · rw [if_neg (by simp [h3])] at h
        injection h with h _
        exact ⟨h1, _, _, by rw [← h2], by rw [← h3], h.symm⟩
      · rw [if_pos h3] at h
        injection h with _ h
        exact absurd h h3
    · rw [if_pos h2] at h
      injection h with _ h
      exact absurd h h2
  · rw [if_pos h1] at h
    injection h with _ h
    exact absurd h h1
theorem link_pol {p q : Po} {who what : Ud} (h : linkP p who what = (q, 0)) : polErr q = 0 ∧ slottedP q.who = false ∧ slottedP q.what = false := by
  obtain ⟨h1, q1, q2, h2, h3, rfl⟩ := link_ok h
  rw [pol_ok] at h1 ⊢
  obtain ⟨a, b, c, d, e, f⟩ := h1
  obtain ⟨b', b''⟩ := fill_ok h2 b
  obtain ⟨d', d''⟩ := fill_ok h3 d
  exact ⟨⟨a, b', c, d', e, f⟩, b'', d''⟩
theorem link_twice {p q : Po} {who what other : Ud} (h : linkP p who what = (q, 0)) : linkP q other other = (q, 0) := by
  obtain ⟨h1, h2, h3⟩ := link_pol h
  unfold linkP
  have f1 : fillP q.who other = (q.who, 0) := by rw [fillP, if_neg (by simp [h2])]
  have f2 : fillP q.what other = (q.what, 0) := by rw [fillP, if_neg (by simp [h3])]
  rw [if_neg (by simp [h1]), f1, f2]
  simp
theorem empty_le : (⟨#[]⟩ : ByteArray).size ≤ 140737488351232 := by decide
theorem fill_z {s q : Sc} {u : Ud} (h : fillP s u = (q, 0)) (hs : ScZ s) (hu : UdOk u) : ScZ q := by
  unfold fillP at h
  split at h
  · split at h
    · injection h with h _; subst h; exact ⟨empty_le, hu⟩
    · injection h with h _; subst h; exact ⟨empty_le, empty_le, empty_le⟩
  · injection h with h _; subst h; exact hs
theorem link_z {p q : Po} {who what : Ud} (h : linkP p who what = (q, 0)) (hp : PoZ p) (h1 : UdOk who) (h2 : UdOk what) : PoZ q := by
  obtain ⟨_, q1, q2, f1, f2, rfl⟩ := link_ok h
  exact ⟨hp.1, fill_z f1 hp.2.1 h1, hp.2.2.1, fill_z f2 hp.2.2.2 h2⟩
def poA : Po := ⟨⟨#[97]⟩, false, sc0, sc0, sc0, []⟩
theorem linkA : linkP poA ud0 ud0 = (poA, 0) := by
  have hn : nameErr poA.name.toList = 0 := by show nameErr (⟨#[97]⟩ : ByteArray).toList = 0; rw [ByteArray.toList_eq]; decide
  have hs : ∀ b, scOk sc0 b = true := fun b => by simp [scOk, sc0, udNone, ud0, emp, ByteArray.toList_eq]
  have h1 : polErr poA = 0 := pol_ok.2 ⟨hn, hs _, hs _, hs _, by simp [poA], rfl⟩
  have f : ∀ u, fillP sc0 u = (sc0, 0) := fun u => by rw [fillP, if_neg (by simp [slottedP, sc0])]
  unfold linkP
  rw [if_neg (by simp [h1])]
  show (if (fillP sc0 ud0).2 ≠ 0 then _ else if (fillP sc0 ud0).2 ≠ 0 then _ else ((⟨poA.name, poA.forbid, (fillP sc0 ud0).1, poA.act, (fillP sc0 ud0).1, poA.conds⟩ : Po), (0 : Int))) = _
  rw [f]
  simp [poA]
theorem link_a (W : World) : Calls Tryz.prog 5 #[.agg #[.string ⟨#[97]⟩, .bool false, .int .i64 0, .string ⟨#[]⟩, .string ⟨#[]⟩, .string ⟨#[]⟩, .int .i64 0, .string ⟨#[]⟩, .string ⟨#[]⟩, .string ⟨#[]⟩, .int .i64 0, .string ⟨#[]⟩, .string ⟨#[]⟩, .string ⟨#[]⟩, .slice none 0 0], .agg #[.string ⟨#[]⟩, .string ⟨#[]⟩], .agg #[.string ⟨#[]⟩, .string ⟨#[]⟩]] W fun e w' =>
    (∃ A c, e = .returned (.tuple #[.agg #[.string ⟨#[97]⟩, .bool false, .int .i64 0, .string ⟨#[]⟩, .string ⟨#[]⟩, .string ⟨#[]⟩, .int .i64 0, .string ⟨#[]⟩, .string ⟨#[]⟩, .string ⟨#[]⟩, .int .i64 0, .string ⟨#[]⟩, .string ⟨#[]⟩, .string ⟨#[]⟩, .slice A 0 c], errV 0])) ∧ Below W.heap.size W w' := by
  have h := link_Link poA [] none 0 ud0 ud0 W rfl ⟨by decide, ⟨empty_le, empty_le, empty_le⟩, ⟨empty_le, empty_le, empty_le⟩, ⟨empty_le, empty_le, empty_le⟩⟩ ⟨SlG.nil _ _ _, by simp⟩ (by simp) ⟨empty_le, empty_le⟩ ⟨empty_le, empty_le⟩
  refine Calls.mono h ?_
  rintro e w' ⟨A, c, cs, he, _, _, hcs, _, hb⟩
  rw [linkA] at he hcs
  have : cs = [] := by
    have := congrArg List.length hcs
    simp [poA] at this
    exact List.eq_nil_of_length_eq_zero this.symm
  subst this
  exact ⟨⟨A, c, he⟩, hb⟩
end Go.Proofs.YtbommoefpekalaaGreat
