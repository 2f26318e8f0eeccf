/-
  Contract of impl.TagLengths.
-/
import Derived.Test.YtldgfgjaabphnaaKeepT
import Derived.Test.YtldgfgjaabphnaaTagLenV
import Derived.Test.YtldgfgjaabphnaaBudget
import Derived.Deep.RegionHeld3
import Derived.Deep.RegionWith
import Derived.Deep.DeepCutAuto
namespace Go.Proofs.Ytldgfgjaabphnaa
open Go.RowKit

/-- The least and the greatest length among the first i + 1 words. -/
def lenLo (s : Sys (List Int)) (xs : List Int) : Nat → Int
  | 0 => xs.length
  | i + 1 => if lenLo s xs i < ((s.it xs (i + 1)).length : Int) then lenLo s xs i else (s.it xs (i + 1)).length
def lenHi (s : Sys (List Int)) (xs : List Int) : Nat → Int
  | 0 => xs.length
  | i + 1 => if ((s.it xs (i + 1)).length : Int) < lenHi s xs i then lenHi s xs i else (s.it xs (i + 1)).length
/-- Behind i visits. -/
def visLo (s : Sys (List Int)) (xs : List Int) : Nat → Int
  | 0 => xs.length
  | i + 1 => if ((s.it xs i).length : Int) < visLo s xs i then ((s.it xs i).length : Int) else visLo s xs i
def visHi (s : Sys (List Int)) (xs : List Int) : Nat → Int
  | 0 => xs.length
  | i + 1 => if visHi s xs i < ((s.it xs i).length : Int) then ((s.it xs i).length : Int) else visHi s xs i
theorem visLo_eq (s : Sys (List Int)) (xs : List Int) (i : Nat) : visLo s xs (i + 1) = lenLo s xs i := by
  induction i with
  | zero => show (if (xs.length : Int) < (xs.length : Int) then (xs.length : Int) else (xs.length : Int)) = xs.length; simp
  | succ i ih => rw [visLo, ih, lenLo]; split <;> split <;> omega
theorem visHi_eq (s : Sys (List Int)) (xs : List Int) (i : Nat) : visHi s xs (i + 1) = lenHi s xs i := by
  induction i with
  | zero => show (if (xs.length : Int) < (xs.length : Int) then (xs.length : Int) else (xs.length : Int)) = xs.length; simp
  | succ i ih => rw [visHi, ih, lenHi]; split <;> split <;> omega
def tagLengthsF (d : Int) (words : List (List Int)) (hs xs : List Int) (b : Int) : Int × Int × Int :=
  if tagCodeF d words hs xs = 0 then
    if inB b 1 20000 then
      match (tagSys d words hs).run b.toNat xs with
      | some i => (lenLo (tagSys d words hs) xs i, lenHi (tagSys d words hs) xs i, 0)
      | none => (0, 0, 5)
    else (0, 0, 2)
  else (0, 0, 1)
theorem tagLengthsF_bad {d : Int} {words : List (List Int)} {hs xs : List Int} {b : Int} (h : tagCodeF d words hs xs = 1) : tagLengthsF d words hs xs b = (0, 0, 1) := by unfold tagLengthsF; rw [h]; simp
theorem tagLengthsF_range {d : Int} {words : List (List Int)} {hs xs : List Int} {b : Int} (h : tagCodeF d words hs xs = 0) (h1 : inB b 1 20000 = false) : tagLengthsF d words hs xs b = (0, 0, 2) := by unfold tagLengthsF; rw [h, h1]; simp
theorem tagLengthsF_ended {d : Int} {words : List (List Int)} {hs xs : List Int} {N i : Nat} (h : tagCodeF d words hs xs = 0) (h1 : inB (N : Int) 1 20000 = true) (h2 : (tagSys d words hs).Ended xs N i) :
    tagLengthsF d words hs xs (N : Int) = (lenLo (tagSys d words hs) xs i, lenHi (tagSys d words hs) xs i, 0) := by
  unfold tagLengthsF; rw [h, h1, Int.toNat_natCast, Sys.run_ended h2]; simp
theorem tagLengthsF_full {d : Int} {words : List (List Int)} {hs xs : List Int} {N i : Nat} (h : tagCodeF d words hs xs = 0) (h1 : inB (N : Int) 1 20000 = true) (h2 : (tagSys d words hs).Full xs N i) :
    tagLengthsF d words hs xs (N : Int) = (0, 0, 5) := by
  unfold tagLengthsF; rw [h, h1, Int.toNat_natCast, Sys.run_full h2]; simp
def Ints3 (w : World) (r : Int × Int × Int) (e : Ending) (w' : World) : Prop := e = .returned (.tuple #[.int .i64 r.1, .int .i64 r.2.1, .int .i64 r.2.2]) ∧ Below w.heap.size w w'
theorem ints3 {w wf : World} {a b c : Int} {r : Int × Int × Int} (hr : r = (a, b, c)) (hz : Below w.heap.size w wf) : Ints3 w r (.returned (.tuple #[.int .i64 a, .int .i64 b, .int .i64 c])) wf := by subst hr; exact ⟨rfl, hz⟩

/-- What TagLengths' own cells hold ahead of round i. -/
def lenD (s : Sys (List Int)) (xs : List Int) (b1 b2 i : Nat) (X : Nat → Prop) (W : World) : Prop := X b1 ∧ X b2 ∧ Blk W b1 2 #[.int .i64 (visLo s xs i)] ∧ Blk W b2 2 #[.int .i64 (visHi s xs i)]
theorem lenD_fr (s : Sys (List Int)) (xs : List Int) (b1 b2 i : Nat) : FrD (lenD s xs b1 b2 i) := by
  rintro X W W' ⟨x1, x2, h1, h2⟩ hf
  exact ⟨x1, x2, h1.fr hf x1, h2.fr hf x2⟩

set_option maxRecDepth 100000 in
set_option maxHeartbeats 4000000 in
theorem tagLengthsI_any (d : Int) (A : Option Addr) (n c : Nat) (ts : List Sl) (B : Option Addr) (m k : Nat) (hs : List Int) (C : Option Addr) (l r : Nat) (xs : List Int) (b : Int) (w : World) (hx : SII w A n ts) (hy : SI w B m hs) (hz : SI w C l xs) (hn : n ≤ 1048576) (hm : m ≤ 1048576) (hns : ∀ t ∈ ts, t.xs.length ≤ 1048576) (hl : l ≤ 1048576) :
    Calls Try.prog 29 #[.agg #[.int .i64 d, .slice A n c, .slice B m k], .slice C l r, .int .i64 b] w (Ints3 w (tagLengthsF d (nums ts) hs xs b)) := by
  obtain ⟨W, hW_⟩ : ∃ W, W = w.alloc (.cells #[.int .i64 d, .slice A n c, .slice B m k] 29) := ⟨_, rfl⟩
  have b0 : Blk W w.heap.size 29 #[.int .i64 d, .slice A n c, .slice B m k] := by rw [hW_]; exact Blk.new w _ _
  have y0 : Below w.heap.size w W := by rw [hW_]; exact (Below.refl _ _).alloc (Nat.le_refl _) _
  have HW := Lib.hid hW_
  clear hW_
  have q0 : W.cell? ⟨w.heap.size, 0, none⟩ = some (.int .i64 d) := b0.cell 0
  have q1 : W.cell? ⟨w.heap.size, 1, none⟩ = some (.slice A n c) := b0.cell 1
  have q2 : W.cell? ⟨w.heap.size, 2, none⟩ = some (.slice B m k) := b0.cell 2
  have HNS := Lib.hid hns
  clear hns
  have hxl : xs.length = l := hz.len
  have HXL := Lib.hid hxl
  clear hxl
  go_enter Try.func29, Try.ntmps29
  go_wp2_with fail
  rw [← HW.out]
  refine (tagCode_any _ _ _ _ ts _ _ _ hs _ _ _ xs _ (hx.below y0) (hy.below y0) (hz.below y0) hn hm hl (fun t ht => by have := HNS.out t ht; omega)).mono ?_
  rintro e w2 ⟨rfl, hb2⟩
  have y2 := y0.trans (hb2.mono y0.size)
  have b2 := b0.below' hb2
  clear q0 q1 q2
  rcases tagCode_01 d (nums ts) hs xs with hcode | hcode
  rotate_left
  · have HF := Lib.hid (tagLengthsF_bad (b := b) hcode)
    rw [hcode]
    clear hcode
    go_wp2_with fail
    exact bodyPost_ret (v := .tuple #[.int .i64 0, .int .i64 0, .int .i64 1]) (by simp [results, Try.results29, go_sem]) rfl (ints3 HF.out y2)
  have HC := Lib.hid hcode
  rw [hcode]
  clear hcode
  cases a2 : inB b 1 20000
  · have HF := Lib.hid (tagLengthsF_range HC.out a2)
    have A2 := Lib.hid a2
    clear a2
    go_wp2_with (go_at_call 64; refine (budgetOk_is A2.out _).mono ?_; rintro e w' ⟨rfl, rfl⟩)
    exact bodyPost_ret (v := .tuple #[.int .i64 0, .int .i64 0, .int .i64 2]) (by simp [results, Try.results29, go_sem]) rfl (ints3 HF.out y2)
  have A2 := Lib.hid a2
  have hb := (inB_iff _ _ _).1 a2
  obtain ⟨N, rfl⟩ : ∃ N : Nat, b = (N : Int) := ⟨b.toNat, by omega⟩
  clear a2
  obtain ⟨w3, hW_⟩ : ∃ W, W = (w2.alloc (.cells #[.int .i64 (l : Int)] 2)).alloc (.cells #[.int .i64 (l : Int)] 2) := ⟨_, rfl⟩
  have s_1 : (w2.alloc (.cells #[.int .i64 (l : Int)] 2)).heap.size = w2.heap.size + 1 := by simp
  have e1 : Blk w3 w2.heap.size 2 #[.int .i64 (l : Int)] := by rw [hW_]; exact (Blk.new w2 _ _).alloc _
  have e2 : Blk w3 (w2.heap.size + 1) 2 #[.int .i64 (l : Int)] := by rw [hW_, ← s_1]; exact Blk.new _ _ _
  have y3 : Below w2.heap.size w2 w3 := by rw [hW_]; exact ((Below.refl _ _).alloc (Nat.le_refl _) _).alloc (by simp) _
  have Hw3 := Lib.hid hW_
  clear hW_ s_1
  have b2l := b2.lt
  have q0 : w2.cell? ⟨w.heap.size, 0, none⟩ = some (.int .i64 d) := b2.cell 0
  have q1 : w2.cell? ⟨w.heap.size, 1, none⟩ = some (.slice A n c) := b2.cell 1
  have q2 : w2.cell? ⟨w.heap.size, 2, none⟩ = some (.slice B m k) := b2.cell 2
  go_wp2_with (first | (go_at_call 64; refine (budgetOk_is A2.out _).mono ?_; rintro e w' ⟨rfl, rfl⟩) | (go_at_call 77; refine (sizeI_any _ _ _ _ (by omega)).mono ?_; rintro e w' ⟨rfl, rfl⟩))
  rw [← Hw3.out]
  have y23 := y2.trans (y3.mono y2.size)
  refine (tagRunOf_any _ _ _ _ _ _ _ _ _ _ xs _ (hz.below y23) hl).mono ?_
  rintro e w4 ⟨g, Q, r3, rfl, hg3, hr3, ho3, hb3⟩
  have e14 := e1.below' hb3
  have e24 := e2.below' hb3
  have hs3 : w2.heap.size + 1 < w3.heap.size := e2.lt
  clear q0 q1 q2
  obtain ⟨p, hp⟩ : ∃ p : Tg, p = ⟨w2, g, d, A, n, c, ts, B, m, k, hs, xs⟩ := ⟨_, rfl⟩
  have hok : p.Ok := by rw [hp]; exact ⟨HC.out, hx.below y2, hy.below y2, by show w2.heap.size ≤ g; omega, hn, hm⟩
  have hpx : p.xs = xs := by rw [hp]
  have h0 : TgS p 0 (lenD p.sys p.xs w2.heap.size (w2.heap.size + 1) 0) w4 := by
    rw [hp]
    refine ⟨_, Q, r3, fun b => b = w2.heap.size ∨ b = w2.heap.size + 1, rfl, ⟨?_, ?_, hr3, ho3.mono (by show w2.heap.size ≤ _; omega), ?_, y3.trans (hb3.mono y3.size)⟩, .inl rfl, .inr rfl, ?_, ?_⟩
    · show ¬ (g = w2.heap.size ∨ g = w2.heap.size + 1); omega
    · rintro b (h | h) <;> have := hb3.size <;> omega
    · intro b hb h
      have h9 := ho3.blk_ge b hb
      rcases h with h | h <;> omega
    · show Blk w4 w2.heap.size 2 #[.int .i64 (xs.length : Int)]
      rw [HXL.out]; exact e14
    · show Blk w4 (w2.heap.size + 1) 2 #[.int .i64 (xs.length : Int)]
      rw [HXL.out]; exact e24
  have hvis : ∀ i u W, i ≤ N → p.sys.Alive p.xs i → TgV p i (lenD p.sys p.xs w2.heap.size (w2.heap.size + 1) i) u W → Calls Try.prog 78 (#[u] ++ #[.pointer (some ⟨w2.heap.size, 0, none⟩), .pointer (some ⟨w2.heap.size + 1, 0, none⟩)]) W fun e W' => e = .returned (.bool true) ∧ TgS p i (lenD p.sys p.xs w2.heap.size (w2.heap.size + 1) (i + 1)) W' := by
    rintro i u W _ hal ⟨Q', r', X, rfl, hO, x1, x2, h1, h2⟩
    have hlen := (tagCode_parts (tagAlive_good hok.code hal)).2.2.2.1
    have hpw : p.w0 = w2 := by rw [hp]
    refine (lenVisit_any Q' (p.it i).length r' w2.heap.size (w2.heap.size + 1) _ _ W h1 h2 (by show (p.it i).length ≤ _; have : (p.it i).length ≤ 1000 := hlen; omega) (by omega)).mono ?_
    rintro e W' ⟨he, rfl⟩
    refine ⟨he, _, Q', r', _, rfl, hO.turn (Y := fun b => b = w2.heap.size ∨ b = w2.heap.size + 1) ((((Keep.refl _ W).set (.inl rfl) _).set (.inr rfl) _).drewN 1) ?_, .inl x1, .inl x2, ?_, ?_⟩
    · rintro b (hb | hb)
      · subst hb; exact ⟨x1, by rw [hpw]; omega⟩
      · subst hb; exact ⟨x2, by rw [hpw]; omega⟩
    · exact ((h1.set_ 0 _).far (p := ⟨w2.heap.size + 1, 0, none⟩) (show w2.heap.size ≠ w2.heap.size + 1 by omega) _)
    · exact ((h2.far (p := ⟨w2.heap.size, 0, none⟩) (show w2.heap.size + 1 ≠ w2.heap.size by omega) _).set_ 0 _)
  have hrun := runTagSys p hok N 78 #[.pointer (some ⟨w2.heap.size, 0, none⟩), .pointer (some ⟨w2.heap.size + 1, 0, none⟩)] (fun _ => true) (lenD p.sys p.xs w2.heap.size (w2.heap.size + 1)) (lenD_fr _ _ _ _) w4 (by omega) Try.call78 hvis h0
  have hpg : p.g = g := by rw [hp]
  rw [hpg] at hrun
  have HRUN := Lib.hid hrun
  have HP := Lib.hid hp
  clear hrun hp h0 hpg hok hvis hpx
  go_wp2_with fail
  refine HRUN.out.mono ?_
  rintro e w5 (⟨i, hi, hal, _, hend, rfl, ⟨u, Q4, r4, X, _, ho, _, _, h1, h2⟩⟩ | ⟨i, hi, hal, _, hh, hro, rfl, hF⟩)
  · have hen : (tagSys d (nums ts) hs).Ended xs N i := by
      rw [HP.out] at hal hend
      refine ⟨hi, hal, ?_⟩
      rcases hend with h | h | h
      · cases h
      · exact .inl h
      · exact .inr h
    have HF := Lib.hid (tagLengthsF_ended HC.out A2.out hen)
    have hlow : Below w2.heap.size w2 w5 := by have := ho.low; rwa [HP.out] at this
    have c1 : w5.cell? ⟨w2.heap.size, 0, none⟩ = some (.int .i64 (lenLo (tagSys d (nums ts) hs) xs i)) := by rw [← visLo_eq]; have := h1.cell 0; rwa [HP.out] at this
    have c2 : w5.cell? ⟨w2.heap.size + 1, 0, none⟩ = some (.int .i64 (lenHi (tagSys d (nums ts) hs) xs i)) := by rw [← visHi_eq]; have := h2.cell 0; rwa [HP.out] at this
    have y4 := y2.trans (hlow.mono y2.size)
    clear ho hal hend hen h1 h2
    generalize lenLo (tagSys d (nums ts) hs) xs i = vlo at *
    generalize lenHi (tagSys d (nums ts) hs) xs i = vhi at *
    go_wp2_with fail
    go_quiet (fail)
    go_wp2_with fail
    exact bodyPost_ret (v := .tuple #[.int .i64 vlo, .int .i64 vhi, .int .i64 0]) (by simp [results, Try.results29, go_sem]) rfl (ints3 HF.out (below_drewN y4 _))
  · have hfu : (tagSys d (nums ts) hs).Full xs N i := by
      rw [HP.out] at hal hh hro
      exact ⟨hi, hal, hh, hro⟩
    have HF := Lib.hid (tagLengthsF_full HC.out A2.out hfu)
    have hlow : Below w2.heap.size w2 w5 := by have := hF; rwa [HP.out] at this
    clear hal hh hro hfu
    go_wp2_with fail
    exact bodyPost_ret (v := .tuple #[.int .i64 0, .int .i64 0, .int .i64 5]) (by simp [results, Try.results29, go_sem]) rfl (ints3 HF.out (y2.trans (hlow.mono y2.size)))
end Go.Proofs.Ytldgfgjaabphnaa
