/-
  PLAIN: the values of a set, one behind the other: the next one is the least of those behind the last.
  THE WALKS of the reference: Faults, SetOf, of values.
-/
import Derived.Test.YtnhcjpmamgdeoaaGreatDoorMvQ
import Derived.Test.YtnhcjpmamgdeoaaGreatDoorRef18
import Derived.Test.YtnhcjpmamgdeoaaGreatDoorMvL
import Derived.Deep.LoopGhost
namespace Go.Proofs.YtnhcjpmamgdeoaaGreatDoor
open Go.RowKit

def gtL (last x : List Nd) : Bool := last.isEmpty || decide (0 < ndsCmp x last)
def ltL (nx x : List Nd) : Bool := nx.isEmpty || decide (ndsCmp x nx < 0)
def nxM (last : List Nd) (nx y : NsM) : NsM := if gtL last y.e = true ∧ ltL nx.e y.e = true then y else nx
def nilM : NsM := ⟨none, 0, []⟩
def nextM (ms : List NsM) (last : List Nd) : NsM := ms.foldl (nxM last) nilM
theorem nextM_step {ms : List NsM} {k : Nat} {y : NsM} (h : ms[k]? = some y) (last : List Nd) : nextM (ms.take (k + 1)) last = nxM last (nextM (ms.take k) last) y := by
  unfold nextM
  rw [List.take_add_one, h, List.foldl_append]; rfl
theorem nx_fold (last : List Nd) : ∀ (ms : List NsM) (nx : NsM), (∀ y ∈ ms, y.e ≠ []) → (nx.e = [] ∨ gtL last nx.e = true) →
    (ms.foldl (nxM last) nx = nx ∨ ms.foldl (nxM last) nx ∈ ms) ∧ ((ms.foldl (nxM last) nx).e = [] ∨ gtL last (ms.foldl (nxM last) nx).e = true) ∧
    (∀ y ∈ ms, gtL last y.e = true → (ms.foldl (nxM last) nx).e ≠ [] ∧ ndsCmp (ms.foldl (nxM last) nx).e y.e ≤ 0) ∧ (nx.e ≠ [] → (ms.foldl (nxM last) nx).e ≠ [] ∧ ndsCmp (ms.foldl (nxM last) nx).e nx.e ≤ 0)
  | [], nx, _, h => ⟨.inl rfl, h, by simp, fun hn => ⟨hn, by simp [cm_nds.self]⟩⟩
  | y :: ms, nx, hne, h => by
    have le_tr : ∀ a b c : List Nd, ndsCmp a b ≤ 0 → ndsCmp b c ≤ 0 → ndsCmp a c ≤ 0 := fun a b c h1 h2 => by
      by_cases e1 : ndsCmp a b = 0
      · rw [cm_nds.eq _ _ e1]; exact h2
      · by_cases e2 : ndsCmp b c = 0
        · rw [← cm_nds.eq _ _ e2]; exact h1
        · have := cm_nds.trans a b c (by omega) (by omega); omega
    rw [List.foldl_cons]
    by_cases hc : gtL last y.e = true ∧ ltL nx.e y.e = true
    · have hx : nxM last nx y = y := by unfold nxM; rw [if_pos hc]
      rw [hx]
      obtain ⟨a1, a2, a3, a4⟩ := nx_fold last ms y (fun z hz => hne z (by simp [hz])) (.inr hc.1)
      have a4' := a4 (hne y (by simp))
      refine ⟨.inr ?_, a2, ?_, ?_⟩
      · rcases a1 with h | h
        · rw [h]; simp
        · simp [h]
      · intro z hz hg
        rcases List.mem_cons.1 hz with rfl | hz
        · exact a4'
        · exact a3 z hz hg
      · intro hn
        refine ⟨a4'.1, le_tr _ _ _ a4'.2 ?_⟩
        have h2 := hc.2
        unfold ltL at h2
        rw [Bool.or_eq_true] at h2
        rcases h2 with h2 | h2
        · exact absurd (by simpa using h2) hn
        · have : ndsCmp y.e nx.e < 0 := by simpa using h2
          omega
    · have hx : nxM last nx y = nx := by unfold nxM; rw [if_neg hc]
      rw [hx]
      obtain ⟨a1, a2, a3, a4⟩ := nx_fold last ms nx (fun z hz => hne z (by simp [hz])) h
      refine ⟨?_, a2, ?_, a4⟩
      · rcases a1 with h | h
        · exact .inl h
        · exact .inr (by simp [h])
      · intro z hz hg
        rcases List.mem_cons.1 hz with rfl | hz
        · have hl : ltL nx.e z.e = false := by
            cases hq : ltL nx.e z.e with
            | false => rfl
            | true => exact absurd ⟨hg, hq⟩ hc
          unfold ltL at hl
          rw [Bool.or_eq_false_iff] at hl
          have hn : nx.e ≠ [] := by
            intro h0
            rw [h0] at hl
            simp at hl
          obtain ⟨b1, b2⟩ := a4 hn
          refine ⟨b1, le_tr _ _ _ b2 ?_⟩
          have h3 : ¬ ndsCmp z.e nx.e < 0 := by simpa using hl.2
          have := cm_nds.flip nx.e z.e
          omega
        · exact a3 z hz hg
theorem dedupA_mem : ∀ (l : List (List Nd)) (a p : List Nd), p ∈ a :: l → p ∈ a :: dedupA a l
  | [], a, p, h => h
  | b :: r, a, p, h => by
    rw [dedupA]
    by_cases h0 : ndsCmp a b = 0
    · rw [if_pos h0]
      have e := cm_nds.eq _ _ h0
      refine dedupA_mem r a p ?_
      rcases List.mem_cons.1 h with rfl | h
      · simp
      · rcases List.mem_cons.1 h with rfl | h
        · rw [e]; simp
        · simp [h]
    · rw [if_neg h0]
      rcases List.mem_cons.1 h with rfl | h
      · simp
      · have := dedupA_mem r b p h
        exact List.mem_cons_of_mem _ this
theorem setParts_mem {ps : List (List Nd)} {p : List Nd} (h : p ∈ ps) : p ∈ setParts ps := by
  have h1 : p ∈ ps.mergeSort ndsLe := (List.mergeSort_perm _ _).mem_iff.2 h
  unfold setParts
  cases hq : ps.mergeSort ndsLe with
  | nil => rw [hq] at h1; cases h1
  | cons a l => rw [hq] at h1; exact dedupA_mem l a p h1
theorem pw_get {S : List (List Nd)} (h : S.Pairwise LtN) {i j : Nat} {a b : List Nd} (ha : S[i]? = some a) (hb : S[j]? = some b) (hij : i < j) : ndsCmp a b < 0 := by
  rw [List.pairwise_iff_getElem] at h
  obtain ⟨h1, e1⟩ := List.getElem?_eq_some_iff.1 ha
  obtain ⟨h2, e2⟩ := List.getElem?_eq_some_iff.1 hb
  have := h i j h1 h2 hij
  rw [e1, e2] at this
  exact this
/-- The last one ahead of place k. -/
def lastS (S : List (List Nd)) (k : Nat) : List Nd := if k = 0 then [] else (S[k - 1]?).getD []
theorem lastS_succ {S : List (List Nd)} {k : Nat} {a : List Nd} (h : S[k]? = some a) : lastS S (k + 1) = a := by
  unfold lastS
  rw [if_neg (by omega), show k + 1 - 1 = k from rfl, h]; rfl
theorem gt_last {S : List (List Nd)} (hS : S.Pairwise LtN) (hne : ∀ p ∈ S, p ≠ []) {k j : Nat} {a : List Nd} (hk : k ≤ S.length) (ha : S[j]? = some a) : gtL (lastS S k) a = decide (k ≤ j) := by
  unfold gtL lastS
  by_cases h0 : k = 0
  · rw [if_pos h0]; simp [h0]
  · rw [if_neg h0]
    obtain ⟨b, hb⟩ : ∃ b, S[k - 1]? = some b := ⟨_, List.getElem?_eq_getElem (by omega)⟩
    rw [hb]
    show (b.isEmpty || decide (0 < ndsCmp a b)) = _
    have hbn := hne b (List.mem_of_getElem? hb)
    rw [show b.isEmpty = false from by cases b; exact absurd rfl hbn; rfl, Bool.false_or]
    by_cases hkj : k ≤ j
    · have := (cm_nds.flip a b).2 (pw_get hS hb ha (by omega))
      simp [hkj, this]
    · rcases Nat.lt_or_ge j (k - 1) with h | h
      · have h1 := pw_get hS ha hb h
        have : ¬ 0 < ndsCmp a b := by omega
        simp [hkj, this]
      · have : j = k - 1 := by omega
        subst this
        rw [hb] at ha
        injection ha with ha
        subst ha
        simp [hkj, cm_nds.self]
theorem next_set {ms : List NsM} (hne : ∀ y ∈ ms, y.e ≠ []) {k : Nat} (hk : k ≤ (setParts (ms.map NsM.e)).length) :
    (k < (setParts (ms.map NsM.e)).length → nextM ms (lastS (setParts (ms.map NsM.e)) k) ∈ ms ∧ (setParts (ms.map NsM.e))[k]? = some (nextM ms (lastS (setParts (ms.map NsM.e)) k)).e) ∧
    (k = (setParts (ms.map NsM.e)).length → (nextM ms (lastS (setParts (ms.map NsM.e)) k)).e = []) := by
  have hS := setParts_pw (ms.map NsM.e)
  have hmem : ∀ y ∈ ms, y.e ∈ setParts (ms.map NsM.e) := fun y hy => setParts_mem (List.mem_map_of_mem hy)
  have hSn : ∀ p ∈ setParts (ms.map NsM.e), p ≠ [] := fun p hp => by
    obtain ⟨y, hy, rfl⟩ := List.mem_map.1 (mem_setParts hp); exact hne y hy
  have hfrom : ∀ p ∈ setParts (ms.map NsM.e), ∃ y ∈ ms, y.e = p := fun p hp => by
    obtain ⟨y, hy, e⟩ := List.mem_map.1 (mem_setParts hp); exact ⟨y, hy, e⟩
  generalize setParts (ms.map NsM.e) = S at *
  obtain ⟨a1, a2, a3, _⟩ := nx_fold (lastS S k) ms nilM hne (.inl rfl)
  have hd : ms.foldl (nxM (lastS S k)) nilM = nextM ms (lastS S k) := rfl
  rw [hd] at a1 a2 a3
  constructor
  · intro hlt
    obtain ⟨t, ht⟩ : ∃ t, S[k]? = some t := ⟨_, List.getElem?_eq_getElem hlt⟩
    obtain ⟨y, hy, rfl⟩ := hfrom t (List.mem_of_getElem? ht)
    have hg : gtL (lastS S k) y.e = true := by rw [gt_last hS hSn hk ht]; simp
    obtain ⟨b1, b2⟩ := a3 y hy hg
    have hm : nextM ms (lastS S k) ∈ ms := by
      rcases a1 with h | h
      · rw [h] at b1; exact absurd rfl b1
      · exact h
    refine ⟨hm, ?_⟩
    obtain ⟨j, hj⟩ := List.getElem?_of_mem (hmem _ hm)
    have hgr : gtL (lastS S k) (nextM ms (lastS S k)).e = true := by
      rcases a2 with h | h
      · exact absurd h b1
      · exact h
    rw [gt_last hS hSn hk hj] at hgr
    have hkj : k ≤ j := by simpa using hgr
    rcases Nat.lt_or_ge k j with h | h
    · have h1 := pw_get hS ht hj h
      have := (cm_nds.flip (nextM ms (lastS S k)).e y.e).2 h1
      omega
    · have : j = k := by omega
      subst this
      exact hj
  · intro he
    rcases a2 with h | h
    · exact h
    · rcases a1 with h1 | h1
      · rw [h1]; rfl
      · obtain ⟨j, hj⟩ := List.getElem?_of_mem (hmem _ h1)
        rw [gt_last hS hSn hk hj] at h
        have := (List.getElem?_eq_some_iff.1 hj).1
        have : k ≤ j := by simpa using h
        omega
end Go.Proofs.YtnhcjpmamgdeoaaGreatDoor
namespace Go.Proofs.YtnhcjpmamgdeoaaGreatDoor
open Go.RowKit Go.Sort

/-- A list of nodes that stays. -/
structure Gd (w : World) (x : NsM) : Prop where
  good : ∀ W, RowKit.Below w.heap.size w W → NsGood W W.heap.size x
  ok : NdOk x.e
theorem Gd.nil (w : World) : Gd w nilM := ⟨fun W _ => ⟨NdSl.nil _ _ _, Nat.le_refl _, by show (0 : Nat) ≤ _; omega⟩, by intro y hy; cases hy⟩
/-- A list of nodes in new memory, and a number. -/
def NdsNewI (w : World) (r : Ending) (w' : World) (xs : List Nd) (k : Int) : Prop :=
  ∃ A c, r = .returned (.tuple #[.slice A xs.length c, .int .i64 k]) ∧ xs.length ≤ c ∧ c ≤ 9223372036854775807 ∧ NdSl w' w'.heap.size A xs ∧ RowKit.Below w.heap.size w w' ∧ ∀ b o, A = some ⟨b, o, none⟩ → w.heap.size ≤ b
theorem NdsNewI.none {w w' : World} {k : Int} (h : RowKit.Below w.heap.size w w') : NdsNewI w (.returned (.tuple #[.slice none 0 0, .int .i64 k])) w' [] k :=
  ⟨Option.none, 0, rfl, Nat.le_refl _, by omega, NdSl.nil _ _ _, h, by simp⟩
theorem own_some {w : World} {base : Nat} {e : TypeId} {v : Value} {n : Nat} {xs : List Value} (h : w.ownsRow base e 4 v n xs) (hn : 0 < n) : ∃ g c, v = .slice (some ⟨g, 0, none⟩) n c ∧ n ≤ c := by
  rcases h.2 with ⟨_, h0⟩ | ⟨g, cap, cur, hv, _, _, h1, _⟩
  · omega
  · exact ⟨g, cap, hv, h1⟩
set_option maxRecDepth 100000 in
set_option maxHeartbeats 3200000 in
theorem r1_Faults (ms : List NsM) (A : Option Addr) (c : Nat) (w : World) (hs : NssAt w A ms) (hv : ∀ y ∈ ms, valErr y.e = 0) (hok : ∀ y ∈ ms, NdOk y.e) (hl : ms.length ≤ 1000) :
    Calls Tryz.prog 84 #[.slice A ms.length c] w fun r w' => r = .returned (.int .i64 0) ∧ RowKit.Below w.heap.size w w' := by
  have HS := Lib.hid hs
  have HC := Lib.hid (fun W (hW : RowKit.Below w.heap.size w W) y (hy : y ∈ ms) => by
    have g := (hs.later hW).good y hy
    have h := r1_ValueFault y.e y.A y.c W g.le g.max (hok y hy) g.sl
    rw [hv y hy] at h
    exact h)
  clear hs hv hok
  go_enter Tryz.func84, Tryz.ntmps84
  go_wp2_with fail
  go_loopw [3] (fun kk wr => ∃ k : Nat, kk = .int .i64 k ∧ k ≤ ms.length ∧ RowKit.Below w.heap.size w wr) (fun kk _ => ms.length - (intOf kk).toNat)
  case atStart => exact ⟨0, rfl, by omega, RowKit.Below.refl _ _⟩
  case round =>
    obtain ⟨k, rfl, hk, hbr⟩ := hrel
    have hzr := hbr.size
    by_cases hlt : k < ms.length
    · obtain ⟨⟨Ay, cy, ey⟩, hy⟩ : ∃ y, ms[k]? = some y := ⟨_, List.getElem?_eq_getElem hlt⟩
      obtain ⟨b, o, hA, hb, hc0⟩ := nsSl_at (HS.out.later hbr).sl hy
      simp only at hc0
      have HCy := Lib.hid (HC.out wr hbr _ (List.mem_of_getElem? hy))
      simp only at HCy
      subst hA
      clear hy
      go_wp2_with fail
      refine HCy.out.mono ?_
      rintro r w1 ⟨rfl, hb1⟩
      have hw1 := hbr.trans (hb1.mono hbr.size)
      clear hb1
      go_wp2_with fail
      exact ⟨⟨k + 1, by go_num, by omega, hw1⟩, by simp [intOf]; omega⟩
    · go_wp2_with fail
      go_ret
      exact ⟨rfl, hbr⟩
theorem setN_step {S : List (List Nd)} {k : Nat} {p : List Nd} (h : S[k]? = some p) : (S.take (k + 1)).flatten = (S.take k).flatten ++ p := by
  rw [List.take_add_one, h]; simp
theorem setN_le (S : List (List Nd)) (k : Nat) : (S.take k).flatten.length ≤ S.flatten.length := flat_take_le S k
set_option maxRecDepth 100000 in
set_option maxHeartbeats 12800000 in
theorem r1_SetOf (ms : List NsM) (A : Option Addr) (c : Nat) (w : World) (hs : NssAt w A ms) (hv : ∀ y ∈ ms, valErr y.e = 0) (hok : ∀ y ∈ ms, NdOk y.e) (hl : ms.length ≤ 1000) :
    Calls Tryz.prog 56 #[.slice A ms.length c] w fun r w' => NdsNewI w r w' (setV (ms.map NsM.e)).1 (setV (ms.map NsM.e)).2 := by
  obtain ⟨j0, hj, hy0, hy1, hy2⟩ := info_parts nd_info
  have HS := Lib.hid hs
  have HF := Lib.hid (r1_Faults ms A c w hs hv hok hl)
  have hne : ∀ y ∈ ms, y.e ≠ [] ∧ y.e.length ≤ 200 := fun y hy => by
    have h := (val_iff y.e).1 (hv y hy)
    obtain ⟨x, r, e, _⟩ := h.2.ne
    exact ⟨by rw [e]; simp, h.1⟩
  have HNE := Lib.hid hne
  have HGD : Hid (∀ y ∈ ms, Gd w y) := fun y hy => ⟨fun W hW => (hs.later hW).good y hy, hok y hy⟩
  have HNX := Lib.hid (fun k hk => next_set (ms := ms) (fun y hy => (hne y hy).1) (k := k) hk)
  have HVV : Hid (setV (ms.map NsM.e) = if 200 < (⟨5, (setParts (ms.map NsM.e)).length, ⟨#[]⟩, ⟨#[]⟩⟩ :: (setParts (ms.map NsM.e)).flatten : List Nd).length then ([], 4) else (⟨5, (setParts (ms.map NsM.e)).length, ⟨#[]⟩, ⟨#[]⟩⟩ :: (setParts (ms.map NsM.e)).flatten, 0)) := rfl
  clear hs hv hok hne
  have hSle : (setParts (ms.map NsM.e)).length ≤ 1000 := by
    have h1 := (dedupP_sub ((ms.map NsM.e).mergeSort ndsLe)).length_le
    rw [List.length_mergeSort, List.length_map] at h1
    exact Nat.le_trans h1 hl
  generalize setParts (ms.map NsM.e) = S at HNX HVV hSle
  generalize setV (ms.map NsM.e) = V at HVV ⊢
  go_enter Tryz.func56, Tryz.ntmps56
  go_wp2_with fail
  refine HF.out.mono ?_
  rintro r w1 ⟨rfl, hb1⟩
  have HOL := Lib.hid (World.ownsRow_lit (base := w1.heap.size) (e := 40) (size := 4) w1 #[.int .i64 5, .int .i64 0, .string ⟨#[]⟩, .string ⟨#[]⟩] 1 (Nat.le_refl _) (by decide) (by simp))
  have HO0 : Hid ((w1.alloc (.cells #[.int .i64 5, .int .i64 0, .string ⟨#[]⟩, .string ⟨#[]⟩] 40)).ownsRow w1.heap.size 40 4 (.slice (some ⟨w1.heap.size, 0, none⟩) 1 1) 1 (flat (⟨5, (0 : Nat), ⟨#[]⟩, ⟨#[]⟩⟩ :: (S.take 0).flatten))) := by
    have := HOL.out
    simpa [flat, Nd.cells, Hid] using this
  have hwa : RowKit.Below w.heap.size w (w1.alloc (.cells #[.int .i64 5, .int .i64 0, .string ⟨#[]⟩, .string ⟨#[]⟩] 40)) := hb1.alloc hb1.size _
  have hsz1 := hb1.size
  clear HOL hb1
  go_wp2_with fail
  go_loopg [5, 6] S.length (fun g ov lv wr => ∃ (k l gb cap : Nat) (L : NsM), ov = .slice (some ⟨gb, 0, none⟩) l cap ∧ lv = .slice L.A L.e.length L.c ∧ k ≤ S.length ∧ S.length - k ≤ g ∧ l ≤ 200 ∧ l ≤ cap ∧ Hid (L.e = lastS S k) ∧ Hid (Gd w L) ∧ Hid (l = (S.take k).flatten.length + 1) ∧
    Hid (wr.ownsRow w1.heap.size 40 4 (.slice (some ⟨gb, 0, none⟩) l cap) l (flat (⟨5, (k : Nat), ⟨#[]⟩, ⟨#[]⟩⟩ :: (S.take k).flatten))) ∧ RowKit.Below w.heap.size w wr ∧ w1.heap.size ≤ wr.heap.size)
  case atStart => exact ⟨0, 1, _, 1, nilM, rfl, rfl, by omega, by omega, by omega, by omega, rfl, Gd.nil w, by simp [Hid], HO0.out, hwa, by simp⟩
  case round =>
    obtain ⟨k, l, gb, cap, ⟨LA, lc, le⟩, rfl, rfl, hk, hg, hl2, hcap, HLE, HLG, HLL, HOr, hbr, hbz⟩ := hrel
    simp only at HLE HLG ⊢
    have hzr := hbr.size
    obtain ⟨wo, hwo⟩ : ∃ wo : World, wo = wr := ⟨_, rfl⟩
    rw [← hwo] at hbr HOr hzr hbz ⊢
    clear hwo
    go_wp2_with fail
    go_loopw [7, 8] (fun nv iv wr => ∃ (j : Nat) (N : NsM), iv = .int .i64 j ∧ nv = .slice N.A N.e.length N.c ∧ j ≤ ms.length ∧ Hid (N = nextM (ms.take j) le) ∧ Hid (Gd w N) ∧ RowKit.Below wo.heap.size wo wr) (fun _ iv => fun _ => ms.length - (intOf iv).toNat)
    case atStart => exact ⟨0, nilM, rfl, rfl, by omega, rfl, Gd.nil w, RowKit.Below.refl _ _⟩
    case round =>
      obtain ⟨j, ⟨NA, nc, ne⟩, rfl, rfl, hj2, HNN, HNG, hbi⟩ := hrel
      simp only at HNG ⊢
      have hwi : RowKit.Below w.heap.size w wr := hbr.trans (hbi.mono hbr.size)
      by_cases hlt : j < ms.length
      · obtain ⟨⟨Ay, cy, ye⟩, hy⟩ : ∃ y, ms[j]? = some y := ⟨_, List.getElem?_eq_getElem hlt⟩
        have hym := List.mem_of_getElem? hy
        have HYG := Lib.hid (HGD.out _ hym)
        obtain ⟨b, o, hA, hb, hc0⟩ := nsSl_at (HS.out.later hwi).sl hy
        simp only at hc0
        have HST := Lib.hid (nextM_step hy le)
        have HG := Lib.hid (fun W (hW : RowKit.Below w.heap.size w W) => by
          have g1 := HYG.out.good W hW
          have g2 := HLG.out.good W hW
          exact r1_Nodes Ay LA cy lc ye le W g1.sl g2.sl (Nat.le_trans g1.le g1.max) (Nat.le_trans g2.le g2.max) HYG.out.ok HLG.out.ok)
        have HL := Lib.hid (fun W (hW : RowKit.Below w.heap.size w W) => by
          have g1 := HYG.out.good W hW
          have g2 := HNG.out.good W hW
          exact r1_Nodes Ay NA cy nc ye ne W g1.sl g2.sl (Nat.le_trans g1.le g1.max) (Nat.le_trans g2.le g2.max) HYG.out.ok HNG.out.ok)
        have hll : le.length ≤ 9223372036854775807 := by have g2 := HLG.out.good wr hwi; exact Nat.le_trans g2.le g2.max
        have hnl : ne.length ≤ 9223372036854775807 := by have g2 := HNG.out.good wr hwi; exact Nat.le_trans g2.le g2.max
        subst hA
        clear hy hym
        obtain ⟨kg, hkg⟩ : ∃ kg, ndsCmp ye le = kg := ⟨_, rfl⟩
        obtain ⟨kl, hkl⟩ : ∃ kl, ndsCmp ye ne = kl := ⟨_, rfl⟩
        have HNV : Hid (nextM (ms.take (j + 1)) le = if (le.isEmpty || decide (0 < kg)) = true ∧ (ne.isEmpty || decide (kl < 0)) = true then ⟨Ay, cy, ye⟩ else ⟨NA, nc, ne⟩) := by
          show _ = _
          rw [HST.out, ← HNN.out, ← hkg, ← hkl]; rfl
        rw [hkg] at HG
        rw [hkl] at HL
        clear hkg hkl HST
        by_cases h1 : le = []
        · have tl : ((le.length : Int) == 0) = true := by simp [h1]
          by_cases h3 : ne = []
          · have tn : ((ne.length : Int) == 0) = true := by simp [h3]
            have HN2 : Hid ((⟨Ay, cy, ye⟩ : NsM) = nextM (ms.take (j + 1)) le) := by
              show _ = _
              rw [HNV.out, if_pos (by simp [h1, h3])]
            clear HNV h1 h3
            go_wp2_with fail
            exact ⟨⟨j + 1, ⟨Ay, cy, ye⟩, by go_num, rfl, by omega, HN2, HYG.out, hbi⟩, by simp [intOf]; omega⟩
          · have tn : ((ne.length : Int) == 0) = false := by simp [h3]
            by_cases h4 : kl < 0
            · have t4 : decide (kl < 0) = true := by simp [h4]
              have HN2 : Hid ((⟨Ay, cy, ye⟩ : NsM) = nextM (ms.take (j + 1)) le) := by
                show _ = _
                rw [HNV.out, if_pos (by simp [h1, h3, h4])]
              clear HNV h1 h3 h4
              go_wp2_with fail
              refine (HL.out _ hwi).mono ?_
              rintro r v1 ⟨rfl, hq⟩
              have hv1 : RowKit.Below w.heap.size w v1 := hwi.trans (hq.mono hwi.size)
              have hi1 : RowKit.Below wo.heap.size wo v1 := hbi.trans (hq.mono hbi.size)
              have hc0 := (hq.cell (p := ⟨b, o + j, none⟩) (by exact hb)).trans hc0
              have hsv1 : wr.heap.size ≤ v1.heap.size := hq.size
              clear hq
              go_wp2_with fail
              exact ⟨⟨j + 1, ⟨Ay, cy, ye⟩, by go_num, rfl, by omega, HN2, HYG.out, hi1⟩, by simp [intOf]; omega⟩
            · have t4 : decide (kl < 0) = false := by simp; omega
              have HN2 : Hid ((⟨NA, nc, ne⟩ : NsM) = nextM (ms.take (j + 1)) le) := by
                show _ = _
                rw [HNV.out, if_neg (by simp [h1, h3, h4])]
              clear HNV h1 h3 h4
              go_wp2_with fail
              refine (HL.out _ hwi).mono ?_
              rintro r v1 ⟨rfl, hq⟩
              have hv1 : RowKit.Below w.heap.size w v1 := hwi.trans (hq.mono hwi.size)
              have hi1 : RowKit.Below wo.heap.size wo v1 := hbi.trans (hq.mono hbi.size)
              have hc0 := (hq.cell (p := ⟨b, o + j, none⟩) (by exact hb)).trans hc0
              have hsv1 : wr.heap.size ≤ v1.heap.size := hq.size
              clear hq
              go_wp2_with fail
              exact ⟨⟨j + 1, ⟨NA, nc, ne⟩, by go_num, rfl, by omega, HN2, HNG.out, hi1⟩, by simp [intOf]; omega⟩
        · have tl : ((le.length : Int) == 0) = false := by simp [h1]
          by_cases h2 : 0 < kg
          · have t2 : decide (0 < kg) = true := by simp [h2]
            by_cases h3 : ne = []
            · have tn : ((ne.length : Int) == 0) = true := by simp [h3]
              have HN2 : Hid ((⟨Ay, cy, ye⟩ : NsM) = nextM (ms.take (j + 1)) le) := by
                show _ = _
                rw [HNV.out, if_pos (by simp [h1, h2, h3])]
              clear HNV h1 h2 h3
              go_wp2_with fail
              refine (HG.out _ hwi).mono ?_
              rintro r v1 ⟨rfl, hq⟩
              have hv1 : RowKit.Below w.heap.size w v1 := hwi.trans (hq.mono hwi.size)
              have hi1 : RowKit.Below wo.heap.size wo v1 := hbi.trans (hq.mono hbi.size)
              have hc0 := (hq.cell (p := ⟨b, o + j, none⟩) (by exact hb)).trans hc0
              have hsv1 : wr.heap.size ≤ v1.heap.size := hq.size
              clear hq
              go_wp2_with fail
              exact ⟨⟨j + 1, ⟨Ay, cy, ye⟩, by go_num, rfl, by omega, HN2, HYG.out, hi1⟩, by simp [intOf]; omega⟩
            · have tn : ((ne.length : Int) == 0) = false := by simp [h3]
              by_cases h4 : kl < 0
              · have t4 : decide (kl < 0) = true := by simp [h4]
                have HN2 : Hid ((⟨Ay, cy, ye⟩ : NsM) = nextM (ms.take (j + 1)) le) := by
                  show _ = _
                  rw [HNV.out, if_pos (by simp [h1, h2, h3, h4])]
                clear HNV h1 h2 h3 h4
                go_wp2_with fail
                refine (HG.out _ hwi).mono ?_
                rintro r v1 ⟨rfl, hq⟩
                have hv1 : RowKit.Below w.heap.size w v1 := hwi.trans (hq.mono hwi.size)
                have hi1 : RowKit.Below wo.heap.size wo v1 := hbi.trans (hq.mono hbi.size)
                have hc0 := (hq.cell (p := ⟨b, o + j, none⟩) (by exact hb)).trans hc0
                have hsv1 : wr.heap.size ≤ v1.heap.size := hq.size
                clear hq
                go_wp2_with fail
                refine (HL.out _ hv1).mono ?_
                rintro r v2 ⟨rfl, hq⟩
                have hv2 : RowKit.Below w.heap.size w v2 := hv1.trans (hq.mono hv1.size)
                have hi2 : RowKit.Below wo.heap.size wo v2 := hi1.trans (hq.mono hi1.size)
                have hc0 := (hq.cell (p := ⟨b, o + j, none⟩) (by exact Nat.lt_of_lt_of_le hb hsv1)).trans hc0
                have hsv2 : wr.heap.size ≤ v2.heap.size := Nat.le_trans hsv1 hq.size
                clear hq
                go_wp2_with fail
                exact ⟨⟨j + 1, ⟨Ay, cy, ye⟩, by go_num, rfl, by omega, HN2, HYG.out, hi2⟩, by simp [intOf]; omega⟩
              · have t4 : decide (kl < 0) = false := by simp; omega
                have HN2 : Hid ((⟨NA, nc, ne⟩ : NsM) = nextM (ms.take (j + 1)) le) := by
                  show _ = _
                  rw [HNV.out, if_neg (by simp [h1, h2, h3, h4])]
                clear HNV h1 h2 h3 h4
                go_wp2_with fail
                refine (HG.out _ hwi).mono ?_
                rintro r v1 ⟨rfl, hq⟩
                have hv1 : RowKit.Below w.heap.size w v1 := hwi.trans (hq.mono hwi.size)
                have hi1 : RowKit.Below wo.heap.size wo v1 := hbi.trans (hq.mono hbi.size)
                have hc0 := (hq.cell (p := ⟨b, o + j, none⟩) (by exact hb)).trans hc0
                have hsv1 : wr.heap.size ≤ v1.heap.size := hq.size
                clear hq
                go_wp2_with fail
                refine (HL.out _ hv1).mono ?_
                rintro r v2 ⟨rfl, hq⟩
                have hv2 : RowKit.Below w.heap.size w v2 := hv1.trans (hq.mono hv1.size)
                have hi2 : RowKit.Below wo.heap.size wo v2 := hi1.trans (hq.mono hi1.size)
                have hc0 := (hq.cell (p := ⟨b, o + j, none⟩) (by exact Nat.lt_of_lt_of_le hb hsv1)).trans hc0
                have hsv2 : wr.heap.size ≤ v2.heap.size := Nat.le_trans hsv1 hq.size
                clear hq
                go_wp2_with fail
                exact ⟨⟨j + 1, ⟨NA, nc, ne⟩, by go_num, rfl, by omega, HN2, HNG.out, hi2⟩, by simp [intOf]; omega⟩
          · have t2 : decide (0 < kg) = false := by simp; omega
            have HN2 : Hid ((⟨NA, nc, ne⟩ : NsM) = nextM (ms.take (j + 1)) le) := by
              show _ = _
              rw [HNV.out, if_neg (by simp [h1, h2])]
            clear HNV h1 h2
            go_wp2_with fail
            refine (HG.out _ hwi).mono ?_
            rintro r v1 ⟨rfl, hq⟩
            have hv1 : RowKit.Below w.heap.size w v1 := hwi.trans (hq.mono hwi.size)
            have hi1 : RowKit.Below wo.heap.size wo v1 := hbi.trans (hq.mono hbi.size)
            have hc0 := (hq.cell (p := ⟨b, o + j, none⟩) (by exact hb)).trans hc0
            have hsv1 : wr.heap.size ≤ v1.heap.size := hq.size
            clear hq
            go_wp2_with fail
            exact ⟨⟨j + 1, ⟨NA, nc, ne⟩, by go_num, rfl, by omega, HN2, HNG.out, hi1⟩, by simp [intOf]; omega⟩
      · have HNA : Hid (⟨NA, nc, ne⟩ = nextM ms le) := by
          have := HNN.out
          rw [List.take_of_length_le (by omega)] at this
          exact this
        have HNXk := Lib.hid (HNX.out k hk)
        rw [← HLE.out, ← HNA.out] at HNXk
        have hnl : ne.length ≤ 9223372036854775807 := by have g2 := HNG.out.good wr hwi; exact Nat.le_trans g2.le g2.max
        have HO2 := Lib.hid (own_keep HOr.out hbi)
        have hz2 := hwi.size
        have hz3 := hbi.size
        clear HOr HNN HNA
        by_cases hks : k < S.length
        · obtain ⟨hnm, hnS⟩ := HNXk.out.1 hks
          obtain ⟨hn0, hn200⟩ := HNE.out _ hnm
          simp only at hn0 hn200 hnS
          have tn : ((ne.length : Int) == 0) = false := by simp [hn0]
          have hl0 : 0 < l := by have := HLL.out; omega
          have hx1 : (flat (⟨5, (k : Nat), ⟨#[]⟩, ⟨#[]⟩⟩ :: (S.take k).flatten))[1]? = some (.int .i64 (k : Nat)) := rfl
          have e1 : wr.cell? ⟨gb, 1, none⟩ = some (.int .i64 (k : Nat)) := (HO2.out.cellAt 1 (by omega)).trans hx1
          have e2 : wr.frozen? ⟨gb, 1, none⟩ = false := HO2.out.frozenAt 1
          have ws : IntKind.i64.wrap ((k : Int) + 1) = (k : Int) + 1 := by rw [IntKind.wrap_i64]; omega
          have HO3 : Hid ((wr.setCell ⟨gb, 1, none⟩ (.int .i64 ((k : Int) + 1))).ownsRow w1.heap.size 40 4 (.slice (some ⟨gb, 0, none⟩) l cap) l (flat (⟨5, ((k + 1 : Nat) : Int), ⟨#[]⟩, ⟨#[]⟩⟩ :: (S.take k).flatten)) ∧ wr.grownBy (wr.setCell ⟨gb, 1, none⟩ (.int .i64 ((k : Int) + 1))) (some gb)) := HO2.out.stored 1 _
          have hgb : w1.heap.size ≤ gb := (own_lt HO2.out rfl).1
          have hw3 : RowKit.Below w.heap.size w (wr.setCell ⟨gb, 1, none⟩ (.int .i64 ((k : Int) + 1))) := hwi.setCell (by show w.heap.size ≤ gb; omega) _
          have HSTP := Lib.hid (setN_step hnS)
          have HNS := Lib.hid hnS
          have hg3 := HNG.out.good _ hw3
          obtain ⟨bn, on, hNA, hbn, -⟩ := hg3.sl hn0
          simp only at hNA
          subst hNA
          have HCE := Lib.hid (fun j u hu => NdSl.flat hg3.sl j u hu)
          have hsz3 : (wr.setCell ⟨gb, 1, none⟩ (.int .i64 ((k : Int) + 1))).heap.size = wr.heap.size := by simp
          clear hg3 hnS hn0 HO2 hx1
          by_cases h200 : 200 < l + ne.length
          · go_wp2_with (at_builtin; refine wpList_append_own _ rfl (.tmp 63) (.tmp 64) 24 rfl w1.heap.size 40 j0 _ 4 48 Tryz.underlying24 hj hy0 hy1 hy2 rfl (by omega) _ l (flat (⟨5, ((k + 1 : Nat) : Int), ⟨#[]⟩, ⟨#[]⟩⟩ :: (S.take k).flatten)) rfl HO3.out.1 ⟨bn, on, none⟩ ne.length nc (flat ne) rfl (flat_len ne) HCE.out (flat_one_cell ne) (by unfold maxLen; omega) (by omega) (by rw [hsz3]; omega) ?_; intro v5 w5 hown5 hgrow5 _; obtain ⟨g5, c5, hv5, hc5⟩ := own_some hown5 (by omega); subst hv5)
            have hb5 : RowKit.Below w.heap.size w w5 := hw3.grown hgrow5 hw3.size (fun q hq => by have := (own_lt HO3.out.1 hq).1; omega)
            clear hown5 hgrow5 e1 e2 ws
            go_wp2_with fail
            go_ret2
            have hbig : 200 < (⟨5, S.length, ⟨#[]⟩, ⟨#[]⟩⟩ :: S.flatten : List Nd).length := by
              have h1 := setN_le S (k + 1)
              rw [HSTP.out, List.length_append] at h1
              have := HLL.out
              simp only [List.length_cons]; omega
            rw [HVV.out, if_pos hbig]
            exact NdsNewI.none hb5
          · go_wp2_with (at_builtin; refine wpList_append_own _ rfl (.tmp 63) (.tmp 64) 24 rfl w1.heap.size 40 j0 _ 4 48 Tryz.underlying24 hj hy0 hy1 hy2 rfl (by omega) _ l (flat (⟨5, ((k + 1 : Nat) : Int), ⟨#[]⟩, ⟨#[]⟩⟩ :: (S.take k).flatten)) rfl HO3.out.1 ⟨bn, on, none⟩ ne.length nc (flat ne) rfl (flat_len ne) HCE.out (flat_one_cell ne) (by unfold maxLen; omega) (by omega) (by rw [hsz3]; omega) ?_; intro v5 w5 hown5 hgrow5 _; obtain ⟨g5, c5, hv5, hc5⟩ := own_some hown5 (by omega); subst hv5)
            have hb5 : RowKit.Below w.heap.size w w5 := hw3.grown hgrow5 hw3.size (fun q hq => by have := (own_lt HO3.out.1 hq).1; omega)
            have hz5 : w1.heap.size ≤ w5.heap.size := by have := hgrow5.size; rw [hsz3] at this; omega
            have HO5 : Hid (w5.ownsRow w1.heap.size 40 4 (.slice (some ⟨g5, 0, none⟩) (l + ne.length) c5) (l + ne.length) (flat (⟨5, ((k + 1 : Nat) : Int), ⟨#[]⟩, ⟨#[]⟩⟩ :: (S.take (k + 1)).flatten))) := by
              show World.ownsRow _ _ _ _ _ _ _
              rw [HSTP.out, ← List.cons_append, flat_append]; exact hown5
            have HL5 : Hid (l + ne.length = (S.take (k + 1)).flatten.length + 1) := by show _ = _; rw [HSTP.out, List.length_append, HLL.out]; omega
            have HLE5 : Hid ((⟨some ⟨bn, on, none⟩, nc, ne⟩ : NsM).e = lastS S (k + 1)) := (lastS_succ HNS.out).symm
            clear hown5 hgrow5 e1 e2 ws
            go_wp2_with fail
            go_roundg (S.length - (k + 1))
            case measure => omega
            case rel => exact ⟨k + 1, l + ne.length, g5, c5, ⟨some ⟨bn, on, none⟩, nc, ne⟩, rfl, rfl, by omega, Nat.le_refl _, by omega, hc5, HLE5.out, HNG.out, HL5.out, HO5.out, hb5, hz5⟩
        · have hke : k = S.length := by omega
          have hn0 := HNXk.out.2 hke
          simp only at hn0
          have tn : ((ne.length : Int) == 0) = true := by simp [hn0]
          have HFN : Hid (V = (⟨5, ((k : Nat) : Int), ⟨#[]⟩, ⟨#[]⟩⟩ :: (S.take k).flatten, 0)) := by
            show _ = _
            rw [HVV.out, hke, List.take_of_length_le (Nat.le_refl _), if_neg]
            have := HLL.out
            rw [hke, List.take_of_length_le (Nat.le_refl _)] at this
            simp only [List.length_cons]; omega
          clear hn0 hke HNXk
          obtain ⟨Ao, co, hv, hco, hcm4, hso, hnew⟩ := own_form_new HO2.out
          injection hv with hva hvb hvc
          subst hva hvc
          have HSO2 := Lib.hid hso
          have HNW := Lib.hid hnew
          clear hso HO2 hnew
          go_wp2_with fail
          go_ret2
          rw [HFN.out]
          have hll : (⟨5, ((k : Nat) : Int), ⟨#[]⟩, ⟨#[]⟩⟩ :: (S.take k).flatten : List Nd).length = l := by have := HLL.out; simp only [List.length_cons]; omega
          refine ⟨some ⟨gb, 0, none⟩, cap, ?_, by rw [hll]; exact hco, hcm4, HSO2.out, hwi, fun b o h => by have := HNW.out b o h; omega⟩
          rw [hll]
          rfl
end Go.Proofs.YtnhcjpmamgdeoaaGreatDoor
