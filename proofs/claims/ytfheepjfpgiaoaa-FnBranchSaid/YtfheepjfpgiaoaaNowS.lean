/-
  The reference's store while it runs: trees in rows that the call owns, all apart.
-/
import Derived.Test.YtfheepjfpgiaoaaEvS
namespace Go.Proofs.Ytfheepjfpgiaoaa
open Go.RowKit

def NowS (w : World) (lo : Nat) (A : Option Addr) (c : Nat) (s : List Tr) : Prop := ∃ us : List Bl, numsB us = s.map Tr.enc ∧ OBB w lo 43 4 A s.length c us
theorem nums_get {us : List Bl} {s : List Tr} (h : numsB us = s.map Tr.enc) {k : Nat} {t : Tr} (hk : s[k]? = some t) : ∃ u, us[k]? = some u ∧ u.xs = t.enc := by
  have h1 := congrArg (·[k]?) h
  simp only [numsB, List.getElem?_map, hk, Option.map_some] at h1
  obtain ⟨u, hu, e⟩ := Option.map_eq_some_iff.1 h1
  exact ⟨u, hu, e⟩
theorem nums_len {us : List Bl} {s : List Tr} (h : numsB us = s.map Tr.enc) : us.length = s.length := by have := congrArg List.length h; simpa [numsB] using this
section
variable {w w' : World} {lo c : Nat} {A : Option Addr} {s : List Tr}
theorem NowS.trd (h : NowS w lo A c s) : TRd w A s := by
  obtain ⟨us, h1, h2⟩ := h
  refine ⟨us, nums_len h1, h2.1.rd, fun k t hk => ?_⟩
  obtain ⟨u, hu, e⟩ := nums_get h1 hk
  exact ⟨u, hu, e, (h2.2.1 u (List.mem_of_getElem? hu)).mono (Nat.zero_le _)⟩
theorem NowS.below (h : NowS w lo A c s) (z : Below w.heap.size w w') : NowS w' lo A c s := by
  obtain ⟨us, h1, h2⟩ := h
  exact ⟨us, h1, h2.below z⟩
theorem NowS.mono {lo' : Nat} (h : NowS w lo A c s) (hl : lo' ≤ lo) : NowS w lo' A c s := by
  obtain ⟨us, h1, h2⟩ := h
  exact ⟨us, h1, h2.1.mono hl, fun u hu => (h2.2.1 u hu).mono hl, h2.2.2⟩
/-- A slice of numbers has grown. -/
theorem NowS.grown {lo' n' c' : Nat} {B : Option Addr} {cs : List Value} (h : NowS w lo A c s) (ho : Own w lo' 3 1 B n' c' cs) (hg : w.grownBy w' (blk B)) : NowS w' lo A c s := by
  obtain ⟨us, h1, h2⟩ := h
  exact ⟨us, h1, h2.1.grown_apt ho hg (by decide), fun u hu => (h2.2.1 u hu).grown_apt ho hg (by decide), h2.2.2⟩
theorem Own.blkOf {w : World} {lo n c s : Nat} {e : TypeId} {b off : Nat} {cs : List Value} (h : Own w lo e s (some ⟨b, off, none⟩) n c cs) : ∃ cur, Blk w b e cur := by
  rcases h.2 with ⟨h0, _⟩ | ⟨b', off', cur, hA, _, hg, _⟩
  · cases h0
  · cases hA; exact ⟨cur, hg⟩
/-- A row is stored; its block lies above all that were there. -/
theorem NowS.set {w0 : World} {b off k : Nat} {x : Tr} {A2 : Option Addr} {c2 : Nat} (h0 : NowS w0 lo (some ⟨b, off, none⟩) c s) (z : Below w0.heap.size w0 w) (hk : k < s.length) (hlo : lo ≤ w0.heap.size) (ho : Own w w0.heap.size 4 1 A2 x.nodes c2 (bools x.enc)) :
    NowS (w.setCell ⟨b, off + k, none⟩ (.slice A2 x.nodes c2)) lo (some ⟨b, off, none⟩) c (s.set k x) := by
  obtain ⟨us, h1, h2⟩ := h0
  have hul := nums_len h1
  have h3 := h2.below z
  obtain ⟨cur, hcur⟩ := h3.1.blkOf
  refine ⟨us.set k ⟨A2, c2, x.enc⟩, ?_, ?_, ?_, ?_⟩
  · simp only [numsB, List.map_set] at h1 ⊢
    rw [h1]
  · have h4 := h3.1.set_ (k := k) (by rw [List.length_map]; omega) (.slice A2 x.nodes c2)
    rw [List.length_set, List.map_set]
    have e1 : Bl.val ⟨A2, c2, x.enc⟩ = .slice A2 x.nodes c2 := by unfold Bl.val; rw [enc_len]
    rw [e1]; exact h4
  · intro u hu
    rcases List.mem_or_eq_of_mem_set hu with h | h
    · exact (h3.2.1 u h).far (p := ⟨b, off + k, none⟩) (hcur.apt (h3.2.1 u h) (by decide)) _
    · subst h
      show Own _ lo 4 1 A2 x.enc.length c2 (bools x.enc)
      rw [enc_len]
      exact (ho.mono hlo).far (p := ⟨b, off + k, none⟩) (hcur.apt ho (by decide)) _
  · rw [List.pairwise_iff_getElem]
    intro i j hi hj hij
    rw [List.length_set] at hi hj
    have hp := List.pairwise_iff_getElem.1 h2.2.2 i j hi hj hij
    rw [List.getElem_set, List.getElem_set]
    split
    · rename_i e
      subst e
      rw [if_neg (by omega)]
      intro bb hb hb2
      have h5 := ho.blk_ge bb hb
      have h6 := (h2.2.1 us[j] (List.getElem_mem _)).blk_lt bb hb2
      omega
    · split
      · rename_i e
        subst e
        intro bb hb hb2
        have h5 := ho.blk_ge bb hb2
        have h6 := (h2.2.1 us[i] (List.getElem_mem _)).blk_lt bb hb
        omega
      · exact hp
/-- One row more; its block lies above all that were there. -/
theorem NowS.push {w0 w2 : World} {x : Tr} {A1 A2 : Option Addr} {c1 c2 : Nat} {us : List Bl} (h1 : numsB us = s.map Tr.enc) (h2 : OBB w0 lo 43 4 A s.length c us) (z : Below w0.heap.size w0 w) (hlo : lo ≤ w0.heap.size) (ho : Own w w0.heap.size 4 1 A1 x.nodes c1 (bools x.enc))
    (hs : Own w2 lo 43 1 A2 (s.length + 1) c2 (us.map Bl.val ++ [.slice A1 x.nodes c1])) (hg : w.grownBy w2 (blk A)) : NowS w2 lo A2 c2 (s ++ [x]) := by
  have h3 := h2.below z
  refine ⟨us ++ [⟨A1, c1, x.enc⟩], by simp only [numsB, List.map_append, List.map_singleton] at h1 ⊢; rw [h1], ?_, ?_, ?_⟩
  · rw [List.length_append, List.map_append, List.map_singleton]
    have e1 : Bl.val ⟨A1, c1, x.enc⟩ = .slice A1 x.nodes c1 := by unfold Bl.val; rw [enc_len]
    rw [e1]; exact hs
  · intro u hu
    rcases List.mem_append.1 hu with h | h
    · exact (h3.2.1 u h).grown_apt h3.1 hg (by decide)
    · rw [List.mem_singleton.1 h]
      show Own _ lo 4 1 A1 x.enc.length c1 (bools x.enc)
      rw [enc_len]
      exact (ho.mono hlo).grown_apt h3.1 hg (by decide)
  · refine AptB.snoc h2.2.2 (fun u hu bb hb hb2 => ?_)
    have h5 := ho.blk_ge bb hb2
    have h6 := (h2.2.1 u hu).blk_lt bb hb
    omega
end
end Go.Proofs.Ytfheepjfpgiaoaa
