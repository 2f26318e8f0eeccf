/-
  Contract of impl.StepTag.
-/
import Derived.Test.YtgkdfjbffnlnpaaTagJ
namespace Go.Proofs.Ytgkdfjbffnlnpaa
open Go.RowKit

/-- What a step of a tag system comes to. -/
def stepTagF (d : Int) (words : List (List Int)) (halting xs : List Int) : List Int × Int :=
  if tagCodeF d words halting xs ≠ 0 then ([], tagCodeF d words halting xs)
  else if haltsB d halting xs then ([], 6)
  else if (xs ++ words.getD (xs.headD 0).toNat []).length ≤ 1000 then ((xs ++ words.getD (xs.headD 0).toNat []).drop d.toNat, 0)
  else ([], 5)

theorem tagCode_parts {d : Int} {words : List (List Int)} {hs xs : List Int} (h : tagCodeF d words hs xs = 0) :
    1 ≤ d ∧ d ≤ 4 ∧ hs.Pairwise (· < ·) ∧ xs.length ≤ 1000 ∧ (∀ x ∈ xs, 0 ≤ x ∧ x < words.length) ∧ 1 ≤ words.length ∧ words.length ≤ 200 ∧ (∀ v ∈ words, v.length ≤ 1000) := by
  unfold tagCodeF at h
  split at h
  · rename_i hv
    simp only [Bool.and_eq_true, validTagB, tagWordB, wordsB, allIn, List.all_eq_true, inB_iff, decide_eq_true_eq, risesB] at hv
    obtain ⟨⟨⟨⟨⟨h1, h2⟩, h3⟩, h4⟩, h5⟩, h6, h7⟩ := hv
    exact ⟨h1.1, h1.2, h4, h6, fun x hx => by have := h7 x hx; omega, by omega, by omega, fun v hv => (h3 v hv).1⟩
  · cases h
theorem tagCode_01 (d : Int) (words : List (List Int)) (hs xs : List Int) : tagCodeF d words hs xs = 0 ∨ tagCodeF d words hs xs = 1 := by
  unfold tagCodeF; split <;> simp
theorem stepTag_bad {d : Int} {words : List (List Int)} {hs xs : List Int} (h : tagCodeF d words hs xs = 1) : stepTagF d words hs xs = ([], 1) := by
  unfold stepTagF; rw [h]; simp
theorem stepTag_halts {d : Int} {words : List (List Int)} {hs xs : List Int} (h : tagCodeF d words hs xs = 0) (h1 : haltsB d hs xs = true) : stepTagF d words hs xs = ([], 6) := by
  unfold stepTagF; rw [h, h1]; simp
theorem stepTag_steps {d : Int} {words : List (List Int)} {hs xs word : List Int} (h : tagCodeF d words hs xs = 0) (h1 : haltsB d hs xs = false) (hw : words.getD (xs.headD 0).toNat [] = word) :
    stepTagF d words hs xs = if (xs ++ word).length ≤ 1000 then ((xs ++ word).drop d.toNat, 0) else ([], 5) := by
  unfold stepTagF; rw [h, h1, hw]; simp
theorem head_letter {xs : List Int} {n : Nat} (h0 : 0 < xs.length) (h : ∀ x ∈ xs, 0 ≤ x ∧ x < (n : Int)) : ∃ x0 : Nat, x0 < n ∧ xs.headD 0 = (x0 : Int) := by
  rcases xs with _ | ⟨x, r⟩
  · simp at h0
  · have := h x (by simp)
    exact ⟨x.toNat, by omega, by simp; omega⟩
theorem haltsB_false {d : Int} {hs xs : List Int} (h : haltsB d hs xs = false) : d ≤ xs.length := by
  unfold haltsB at h; simp at h; omega

set_option maxHeartbeats 1000000 in
theorem stepTag_any (d : Int) (A : Option Addr) (n c : Nat) (ts : List Sl) (B : Option Addr) (m k : Nat) (hs : List Int) (C : Option Addr) (l r : Nat) (xs : List Int) (w : World) (hx : SII w A n ts) (hy : SI w B m hs) (hz : SI w C l xs) (hn : n ≤ 1048576) (hm : m ≤ 1048576) (hl : l ≤ 1048576) (hns : ∀ t ∈ ts, t.xs.length ≤ 1048576) :
    Calls Try.prog 8 #[.agg #[.int .i64 d, .slice A n c, .slice B m k], .slice C l r] w (NewI2 w (stepTagF d (nums ts) hs xs)) := by
  have hx1 := hx.alloc (.cells #[.int .i64 d, .slice A n c, .slice B m k] 29)
  have hy1 := hy.alloc (.cells #[.int .i64 d, .slice A n c, .slice B m k] 29)
  have hz1 := hz.alloc (.cells #[.int .i64 d, .slice A n c, .slice B m k] 29)
  go_enter Try.func8, Try.ntmps8
  go_wp2_with fail
  refine (tagCode_any _ _ _ _ ts _ _ _ hs _ _ _ xs _ hx1 hy1 hz1 hn hm hl (fun t ht => by have := hns t ht; omega)).mono ?_
  rintro e w2 ⟨rfl, hb2⟩
  have q0 : w2.cell? ⟨w.heap.size, 0, none⟩ = some (.int .i64 d) := box_at hb2 0
  have q1 : w2.cell? ⟨w.heap.size, 1, none⟩ = some (.slice A n c) := box_at hb2 1
  have q2 : w2.cell? ⟨w.heap.size, 2, none⟩ = some (.slice B m k) := box_at hb2 2
  have hz2 : w.heap.size < w2.heap.size := by have := hb2.size; simp at this; omega
  have hx2 := hx1.below hb2
  have hy2 := hy1.below hb2
  have hz2' := hz1.below hb2
  have hbb := below_box hb2
  rcases tagCode_01 d (nums ts) hs xs with hcode | hcode
  · have HC := Lib.hid hcode
    obtain ⟨v1, v2, v3, v4, v5, v6, v7, v8⟩ := tagCode_parts hcode
    have HR := Lib.hid v3
    have HX := Lib.hid v5
    have HV := Lib.hid v8
    rw [hcode]
    clear hcode v3 v5 v8
    go_wp2_with fail
    refine (tagRunOf_any _ _ _ _ _ _ _ _ _ _ xs _ hz2' hl).mono ?_
    rintro e w3 ⟨g, Q, r3, rfl, hg3, hr3, ho3, hb3⟩
    have hyg := (hy2.below hb3)
    go_wp2_with fail
    refine (tagHalts_any g _ _ _ _ _ _ _ hs _ _ _ xs _ hr3 hyg ho3.rd hm (by omega) v1 HR).mono ?_
    rintro e w4 ⟨rfl, q, rfl⟩
    cases hh : haltsB d hs xs
    · have HH := Lib.hid hh
      clear hh
      have hdl := haltsB_false HH.out
      have HNL : Hid ((nums ts).length = n) := by show _ = _; have := hx.len; simpa [nums] using this
      obtain ⟨x0, hx0, hx0e⟩ := head_letter (xs := xs) (n := n) (by omega) (by intro x hx'; have := HX.out x hx'; rw [HNL.out] at this; exact this)
      obtain ⟨t, hT⟩ : ∃ t, ts[x0]? = some t := ⟨ts[x0]'(by have := hx.len; omega), List.getElem?_eq_getElem _⟩
      have HF := Lib.hid (stepTag_steps HC.out HH.out (word := t.xs) (by rw [hx0e]; simp [nums, hT]))
      have HT := Lib.hid hT
      have HX0 := Lib.hid hx0e
      have htl := hns t (List.mem_of_getElem? hT)
      have hb4 : Below w2.heap.size w2 (w3.drewN q) := below_drewN hb3 q
      clear hT hx0e
      go_wp2_with fail
      refine (tagStep_any w2 g _ _ _ _ ts _ _ _ _ _ _ x0 xs t _ hx2 hb4 hg3 hr3 (ho3.drewN q) (by omega) v1 hdl HX0 HT hx0 htl).mono ?_
      rintro e w5 ⟨Q5, r5, rfl, hr5, ho5, hb5⟩
      have hB5 : Below w.heap.size w w5 := hbb.trans (hb5.mono (by omega))
      generalize hys : (xs ++ t.xs).drop d.toNat = ys at *
      have HYS := Lib.hid hys
      clear hys
      obtain ⟨m0, m1, m2, m3⟩ := runAt_cell hr5
      by_cases hroom : (xs ++ t.xs).length ≤ 1000
      · have HF2 : Hid (stepTagF d (nums ts) hs xs = (ys, 0)) := by show _ = _; rw [HF.out, if_pos hroom]
        have hdec : decide ((xs ++ t.xs).length ≤ 1000) = true := by simpa using hroom
        rw [hdec]
        clear hdec
        go_wp2_with fail
        go_ret2
        rw [HF2.out]
        exact ⟨Q5, r5, rfl, ho5.mono (by omega), hB5⟩
      · have HF2 : Hid (stepTagF d (nums ts) hs xs = ([], 5)) := by show _ = _; rw [HF.out, if_neg hroom]
        have hdec : decide ((xs ++ t.xs).length ≤ 1000) = false := by simpa using hroom
        rw [hdec]
        clear hdec
        go_wp2_with fail
        go_ret2
        rw [HF2.out]
        exact ⟨none, 0, rfl, Own.nil, hB5⟩
    · have HF := Lib.hid (stepTag_halts HC.out hh)
      clear hh
      go_wp2_with fail
      go_ret2
      rw [HF.out]
      exact ⟨none, 0, rfl, Own.nil, below_drewN (hbb.trans (hb3.mono (by omega))) _⟩
  · have HF := Lib.hid (stepTag_bad hcode)
    rw [hcode]
    clear hcode
    go_wp2_with fail
    go_ret2
    rw [HF.out]
    exact ⟨none, 0, rfl, Own.nil, hbb⟩
end Go.Proofs.Ytgkdfjbffnlnpaa
