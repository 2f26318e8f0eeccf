/-
  Contracts of impl.SpaceProfile and of the reference's l20Space and SpaceProfile.
-/
import Derived.Test.YtbedghebckflmaaTraceS
import Derived.Test.YtbedghebckflmaaNewI
import Derived.IntWalk
import Derived.Deep.RegionHeld3
namespace Go.Proofs.Ytbedghebckflmaa
open Go.RowKit

theorem confs_get {ts : List Cf} {k : Nat} {t : Cf} (h : ts[k]? = some t) : (confs ts)[k]? = some t.conf := by simp [confs, h]
/-- The sizes of the first k. -/
def spTo (cs : List Conf) (k : Nat) : List Int := spacesF (cs.take k)
theorem spTo_next {ts : List Cf} {k : Nat} {t : Cf} (h : ts[k]? = some t) : spTo (confs ts) (k + 1) = spTo (confs ts) k ++ [(t.xs.length : Int) + (t.ys.length : Int)] := by
  obtain ⟨hk, he⟩ := List.getElem?_eq_some_iff.1 (confs_get h)
  unfold spTo
  rw [List.take_succ_eq_append_getElem hk, he]
  simp [spacesF, Cf.conf]
theorem spTo_len (cs : List Conf) (k : Nat) : (spTo cs k).length ≤ k := by unfold spTo spacesF; simp; omega
theorem spTo_end {cs : List Conf} {k : Nat} (h : cs.length ≤ k) : spTo cs k = spacesF cs := by unfold spTo; rw [List.take_of_length_le h]
theorem spaceF_bad {r : List Conf × Int} (h : ¬ r.2 = 0) : spaceF r = ([], r.2) := by unfold spaceF; rw [if_neg h]
theorem spaceF_ok {cs : List Conf} : spaceF (cs, 0) = (spacesF cs, 0) := rfl

theorem l20Space_at {b o m c l d : Nat} {L R : Option Addr} {w : World} (q4 : w.cell? ⟨b, o + 1, none⟩ = some (.slice L m c)) (q5 : w.cell? ⟨b, o + 2, none⟩ = some (.slice R l d)) (hm : m ≤ 1048576) (hl : l ≤ 1048576) :
    Calls Try.prog 98 #[.pointer (some ⟨b, o, none⟩)] w fun e w' => e = .returned (.int .i64 ((m : Int) + (l : Int))) ∧ ∃ nq, w' = w.drewN nq := by
  go_enter Try.func98, Try.ntmps98
  go_wp2_with fail
  go_quiet (fail)
  go_wp2_with fail
  go_ret
  exact ⟨rfl, _, rfl⟩

def spaceProfF (sy st : Int) (rs : List R3) (q : Int) (xs ys : List Int) (b : Int) : List Int × Int := spaceF (traceMachF sy st rs q xs ys b)
theorem spaceProfF_len (sy st : Int) (rs : List R3) (q : Int) (xs ys : List Int) (b : Int) : (spaceProfF sy st rs q xs ys b).1.length ≤ 1048576 := by
  have h := traceMachF_len sy st rs q xs ys b
  unfold spaceProfF spaceF
  split
  · unfold spacesF; simp; omega
  · simp
theorem side_of_conf {ts : List Cf} {cs : List Conf} (hc : confs ts = cs) (hs : ∀ x ∈ cs, x.xs.length ≤ 200 ∧ x.ys.length ≤ 200) {k : Nat} {t : Cf} (h : ts[k]? = some t) : t.xs.length ≤ 200 ∧ t.ys.length ≤ 200 := by
  subst hc
  exact hs t.conf (List.mem_of_getElem? (confs_get h))

set_option maxRecDepth 100000 in
set_option maxHeartbeats 8000000 in
theorem spaceProfileI_any (sy st : Int) (A : Option Addr) (n k : Nat) (rs : List R3) (q : Int) (B : Option Addr) (m c : Nat) (xs : List Int) (C : Option Addr) (l d : Nat) (ys : List Int) (b : Int) (w : World) (hr : S3 w A n rs) (hx : SI w B m xs) (hy : SI w C l ys) (hn : n ≤ 1048576) (hm : m ≤ 1048576) (hl : l ≤ 1048576) :
    Calls Try.prog 41 #[.agg #[.int .i64 sy, .int .i64 st, .slice A n k], .agg #[.int .i64 q, .slice B m c, .slice C l d], .int .i64 b] w (NewI2 w (spaceProfF sy st rs q xs ys b)) := by
  obtain ⟨W, hW_⟩ : ∃ W, W = (w.alloc (.cells #[.int .i64 sy, .int .i64 st, .slice A n k] 30)).alloc (.cells #[.int .i64 q, .slice B m c, .slice C l d] 38) := ⟨_, rfl⟩
  have s_1 : (w.alloc (.cells #[.int .i64 sy, .int .i64 st, .slice A n k] 30)).heap.size = w.heap.size + 1 := by simp
  have b0 : Blk W w.heap.size 30 #[.int .i64 sy, .int .i64 st, .slice A n k] := by rw [hW_]; exact (Blk.new w _ _).alloc _
  have b1 : Blk W (w.heap.size + 1) 38 #[.int .i64 q, .slice B m c, .slice C l d] := by rw [hW_, ← s_1]; exact Blk.new _ _ _
  have y0 : Below w.heap.size w W := by rw [hW_]; exact ((Below.refl _ _).alloc (Nat.le_refl _) _).alloc (by simp) _
  have HW := Lib.hid hW_
  clear hW_ s_1
  go_enter Try.func41, Try.ntmps41
  go_wp2_with fail
  rw [← HW.out]
  refine (traceMachineI_any sy st _ _ _ rs q _ _ _ xs _ _ _ ys b _ (hr.below y0) (hx.below y0) (hy.below y0) hn hm hl).mono ?_
  rintro e W1 ⟨A1, c1, ts, rfl, hO1, hc1, z1⟩
  have HL := Lib.hid (traceMachF_len sy st rs q xs ys b)
  have HS := Lib.hid (traceMachF_side sy st rs q xs ys b)
  have HF : Hid (spaceProfF sy st rs q xs ys b = spaceF (traceMachF sy st rs q xs ys b)) := Lib.hid rfl
  have HC1 := Lib.hid hc1
  clear hc1
  generalize traceMachF sy st rs q xs ys b = res at *
  obtain ⟨cs, kc⟩ := res
  dsimp only at HL HS HC1 hO1 ⊢
  have y1 := y0.trans (z1.mono y0.size)
  have hcl := HL.out
  by_cases hk : kc = 0
  rotate_left
  · have HE := Lib.hid (HF.out.trans (spaceF_bad hk))
    go_wp2_with fail
    exact bodyPost_ret (v := .tuple #[.slice none 0 0, .int .i64 kc]) (by simp [results, Try.results41, go_sem]) rfl (i2_nil HE.out y1)
  subst hk
  have HE := Lib.hid (HF.out.trans spaceF_ok)
  obtain ⟨W2, hW_⟩ : ∃ W, W = W1.alloc (.cells #[] 2) := ⟨_, rfl⟩
  have b2 : Blk W2 W1.heap.size 2 #[] := by rw [hW_]; exact Blk.new W1 _ _
  have z2 : Below W1.heap.size W1 W2 := by rw [hW_]; exact (Below.refl _ _).alloc (Nat.le_refl _) _
  have HW2 := Lib.hid hW_
  clear hW_
  have y2 := y1.trans (z2.mono y1.size)
  go_wp2_with fail
  rw [← HW2.out]
  clear HW2
  have ho0 : Own W2 W1.heap.size 2 1 (some ⟨W1.heap.size, 0, none⟩) (spTo cs 0).length 0 (ints (spTo cs 0)) := i2_lit0 b2 (Nat.le_refl _)
  have HN : Hid (cs.length = ts.length) := Lib.hid (by rw [← HC1.out]; simp [confs])
  go_loopw [10, 26] (fun v i wr => ∃ (j : Nat) (D : Option Addr) (cd : Nat), j ≤ cs.length ∧ i = .int .i64 (j : Int) ∧ v = .slice D (spTo cs j).length cd ∧ Own wr W1.heap.size 2 1 D (spTo cs j).length cd (ints (spTo cs j)) ∧ Below W1.heap.size W1 wr) (fun _ i _ => cs.length - (intOf i).toNat)
  case atStart => exact ⟨0, _, 0, Nat.zero_le _, rfl, by simp [spTo, spacesF], ho0, z2⟩
  case round =>
    obtain ⟨j, D, cd, hj, rfl, rfl, ho, hz⟩ := hrel
    clear ho0 y2 z2 b2 y0 b0 b1 z1
    have hfl := spTo_len cs j
    by_cases hlt : j < cs.length
    · obtain ⟨t, bb, off, HT, rfl, hbl, _, e0, e1, e2, _, _, _⟩ := (hO1.below hz).pick hlt
      have hsz := side_of_conf HC1.out HS.out HT.out
      have HNX : Hid (spTo cs (j + 1) = spTo cs j ++ [(t.xs.length : Int) + (t.ys.length : Int)]) := Lib.hid (by rw [← HC1.out]; exact spTo_next HT.out)
      have hsz1 := hsz.1
      have hsz2 := hsz.2
      clear hsz
      have hzs := hz.size
      obtain ⟨W3, hW_⟩ : ∃ W, W = wr.alloc (.cells #[.int .i64 t.q, .slice t.L t.xs.length t.a, .slice t.R t.ys.length t.d] 38) := ⟨_, rfl⟩
      have b3 : Blk W3 wr.heap.size 38 #[.int .i64 t.q, .slice t.L t.xs.length t.a, .slice t.R t.ys.length t.d] := by rw [hW_]; exact Blk.new wr _ _
      have z3 : Below wr.heap.size wr W3 := by rw [hW_]; exact (Below.refl _ _).alloc (Nat.le_refl _) _
      have HW3 := Lib.hid hW_
      clear hW_
      have u0 : W3.cell? ⟨wr.heap.size, 0, none⟩ = some (.int .i64 t.q) := b3.cell 0
      have u1 : W3.cell? ⟨wr.heap.size, 1, none⟩ = some (.slice t.L t.xs.length t.a) := b3.cell 1
      have u2 : W3.cell? ⟨wr.heap.size, 2, none⟩ = some (.slice t.R t.ys.length t.d) := b3.cell 2
      have ho3 := ho.below z3
      have hz3 := hz.trans (z3.mono hz.size)
      go_upto_region 8 with fail
      rw [← HW3.out]
      clear HW3
      have hwr : IntKind.i64.wrap ((t.xs.length : Int) + (t.ys.length : Int)) = (t.xs.length : Int) + (t.ys.length : Int) := IntWalk.i64_in _ (by omega)
      go_region_held3 (fun w' => w'.cell? ⟨wr.heap.size, 1, none⟩ = some (.slice t.L t.xs.length t.a) ∧ w'.cell? ⟨wr.heap.size, 2, none⟩ = some (.slice t.R t.ys.length t.d))
        (first | (go_keep; done) | (exact ⟨b9.cell 1, b9.cell 2⟩) | (exact ⟨(b3.alloc _).cell 1, (b3.alloc _).cell 2⟩))
        (first
          | (go_at_call 99; refine (sizeI_any _ _ _ _ (by omega)).mono ?_; rintro e w' ⟨rfl, rfl⟩)
          | (refine step_append_Own rfl (.tmp 30) (.tmp 38) rfl elI (lo := W1.heap.size) rfl ((ho3.drewN 1).alloc _) rfl (Rd.new1 _ _ _) (by simp [Value.oneCell']) (by omega) (by simp only [maxLen]; omega) (by have := hz3.size; simp; omega) ?_; intro A9 c9 w9 ho9 hg9 hw9; have b9 := ((b3.drewN 1).alloc _).grown ((ho3.drewN 1).alloc _) hg9 (by decide)))
      clear hwr
      have hz9 : Below W1.heap.size W1 w9 := Own.below_of ((ho3.drewN 1).alloc _) ((below_drewN hz3 1).alloc hz3.size _) hg9 (by have := hz3.size; simp; omega)
      rw [ints_snoc, ← HNX.out] at ho9
      have HLEN : Hid ((spTo cs j).length + 1 = (spTo cs (j + 1)).length) := Lib.hid (by rw [HNX.out]; simp)
      go_wp2_with fail
      go_roundw
      case rel => exact ⟨j + 1, A9, c9, by omega, by go_num, by rw [← HLEN.out], by rw [← HLEN.out]; exact ho9, hz9⟩
      case measure => simp [intOf]; omega
    · have HE2 : Hid (spTo cs j = spacesF cs) := Lib.hid (spTo_end (by omega))
      go_wp2_with fail
      exact bodyPost_ret (v := .tuple #[.slice D (spTo cs j).length cd, .int .i64 0]) (by simp [results, Try.results41, go_sem]) rfl (i2_of HE.out (by rw [HE2.out]) (by rw [← HE2.out]; exact ho.mono y1.size) (y1.trans (hz.mono y1.size)))

set_option maxRecDepth 100000 in
set_option maxHeartbeats 8000000 in
theorem spaceProfileS_any (sy st : Int) (A : Option Addr) (n k : Nat) (rs : List R3) (q : Int) (B : Option Addr) (m c : Nat) (xs : List Int) (C : Option Addr) (l d : Nat) (ys : List Int) (b : Int) (w : World) (hr : S3 w A n rs) (hx : SI w B m xs) (hy : SI w C l ys) (hn : n ≤ 1048576) (hm : m ≤ 1048576) (hl : l ≤ 1048576) :
    Calls Try.prog 40 #[.agg #[.int .i64 sy, .int .i64 st, .slice A n k], .agg #[.int .i64 q, .slice B m c, .slice C l d], .int .i64 b] w (NewI2 w (spaceProfF sy st rs q xs ys b)) := by
  obtain ⟨W, hW_⟩ : ∃ W, W = (w.alloc (.cells #[.int .i64 sy, .int .i64 st, .slice A n k] 30)).alloc (.cells #[.int .i64 q, .slice B m c, .slice C l d] 38) := ⟨_, rfl⟩
  have s_1 : (w.alloc (.cells #[.int .i64 sy, .int .i64 st, .slice A n k] 30)).heap.size = w.heap.size + 1 := by simp
  have b0 : Blk W w.heap.size 30 #[.int .i64 sy, .int .i64 st, .slice A n k] := by rw [hW_]; exact (Blk.new w _ _).alloc _
  have b1 : Blk W (w.heap.size + 1) 38 #[.int .i64 q, .slice B m c, .slice C l d] := by rw [hW_, ← s_1]; exact Blk.new _ _ _
  have y0 : Below w.heap.size w W := by rw [hW_]; exact ((Below.refl _ _).alloc (Nat.le_refl _) _).alloc (by simp) _
  have HW := Lib.hid hW_
  clear hW_ s_1
  go_enter Try.func40, Try.ntmps40
  go_wp2_with fail
  rw [← HW.out]
  refine (traceMachineS_any sy st _ _ _ rs q _ _ _ xs _ _ _ ys b _ (hr.below y0) (hx.below y0) (hy.below y0) hn hm hl).mono ?_
  rintro e W1 ⟨A1, c1, ts, rfl, hO1, hc1, z1⟩
  have HL := Lib.hid (traceMachF_len sy st rs q xs ys b)
  have HS := Lib.hid (traceMachF_side sy st rs q xs ys b)
  have HF : Hid (spaceProfF sy st rs q xs ys b = spaceF (traceMachF sy st rs q xs ys b)) := Lib.hid rfl
  have HC1 := Lib.hid hc1
  clear hc1
  generalize traceMachF sy st rs q xs ys b = res at *
  obtain ⟨cs, kc⟩ := res
  dsimp only at HL HS HC1 hO1 ⊢
  have y1 := y0.trans (z1.mono y0.size)
  have hcl := HL.out
  by_cases hk : kc = 0
  rotate_left
  · have HE := Lib.hid (HF.out.trans (spaceF_bad hk))
    go_wp2_with fail
    exact bodyPost_ret (v := .tuple #[.slice none 0 0, .int .i64 kc]) (by simp [results, Try.results40, go_sem]) rfl (i2_nil HE.out y1)
  subst hk
  have HE := Lib.hid (HF.out.trans spaceF_ok)
  obtain ⟨W2, hW_⟩ : ∃ W, W = W1.alloc (.cells #[] 2) := ⟨_, rfl⟩
  have b2 : Blk W2 W1.heap.size 2 #[] := by rw [hW_]; exact Blk.new W1 _ _
  have z2 : Below W1.heap.size W1 W2 := by rw [hW_]; exact (Below.refl _ _).alloc (Nat.le_refl _) _
  have HW2 := Lib.hid hW_
  clear hW_
  have y2 := y1.trans (z2.mono y1.size)
  go_wp2_with fail
  rw [← HW2.out]
  clear HW2
  have ho0 : Own W2 W1.heap.size 2 1 (some ⟨W1.heap.size, 0, none⟩) (spTo cs 0).length 0 (ints (spTo cs 0)) := i2_lit0 b2 (Nat.le_refl _)
  go_loopw [10, 11] (fun v i wr => ∃ (j : Nat) (D : Option Addr) (cd : Nat), j ≤ cs.length ∧ i = .int .i64 (j : Int) ∧ v = .slice D (spTo cs j).length cd ∧ Own wr W1.heap.size 2 1 D (spTo cs j).length cd (ints (spTo cs j)) ∧ Below W1.heap.size W1 wr) (fun _ i _ => cs.length - (intOf i).toNat)
  case atStart => exact ⟨0, _, 0, Nat.zero_le _, rfl, by simp [spTo, spacesF], ho0, z2⟩
  case round =>
    obtain ⟨j, D, cd, hj, rfl, rfl, ho, hz⟩ := hrel
    clear ho0 y2 z2 b2 y0 b0 b1 z1
    have hfl := spTo_len cs j
    by_cases hlt : j < cs.length
    · obtain ⟨t, bb, off, HT, rfl, hbl, _, e0, e1, e2, _, _, _⟩ := (hO1.below hz).pick hlt
      have hsz := side_of_conf HC1.out HS.out HT.out
      have HNX : Hid (spTo cs (j + 1) = spTo cs j ++ [(t.xs.length : Int) + (t.ys.length : Int)]) := Lib.hid (by rw [← HC1.out]; exact spTo_next HT.out)
      have hsz1 := hsz.1
      have hsz2 := hsz.2
      have hca : ConfAt wr bb t.q t.L t.xs.length t.a t.R t.ys.length t.d ∨ True := .inr trivial
      clear hsz hca
      have hsp : Calls Try.prog 98 #[.pointer (some ⟨bb, off + j * 3, none⟩)] wr fun e w' => e = .returned (.int .i64 ((t.xs.length : Int) + (t.ys.length : Int))) ∧ ∃ nq, w' = wr.drewN nq := l20Space_at e1 e2 (by omega) (by omega)
      have HSP := Lib.hid hsp
      clear hsp
      go_wp2_with fail
      refine HSP.out.mono ?_
      rintro e w' ⟨rfl, nq, rfl⟩
      have ho3 := ho.drewN nq
      have hz3 := below_drewN hz nq
      generalize wr.drewN nq = W3 at *
      go_wp2_with (at_builtin; refine wpList_append_Own rfl (.tmp 29) (.tmp 34) rfl elI (lo := W1.heap.size) rfl (ho3.alloc _) rfl (Rd.new1 W3 _ _) (by simp [Value.oneCell']) (by omega) (by simp only [maxLen]; omega) (by have := hz3.size; simp; omega) ?_; intro A9 c9 w9 ho9 hg9 hw9)
      have hz9 : Below W1.heap.size W1 w9 := Own.below_of (ho3.alloc _) (hz3.alloc hz3.size _) hg9 (by have := hz3.size; simp; omega)
      rw [ints_snoc, ← HNX.out] at ho9
      have HLEN : Hid ((spTo cs j).length + 1 = (spTo cs (j + 1)).length) := Lib.hid (by rw [HNX.out]; simp)
      go_wp2_with fail
      go_roundw
      case rel => exact ⟨j + 1, A9, c9, by omega, by go_num, by rw [← HLEN.out], by rw [← HLEN.out]; exact ho9, hz9⟩
      case measure => simp [intOf]; omega
    · have HE2 : Hid (spTo cs j = spacesF cs) := Lib.hid (spTo_end (by omega))
      go_wp2_with fail
      exact bodyPost_ret (v := .tuple #[.slice D (spTo cs j).length cd, .int .i64 0]) (by simp [results, Try.results40, go_sem]) rfl (i2_of HE.out (by rw [HE2.out]) (by rw [← HE2.out]; exact ho.mono y1.size) (y1.trans (hz.mono y1.size)))
end Go.Proofs.Ytbedghebckflmaa
