/-
  The reference's l09DrawWords: some words over some letters.
-/
import Derived.Test.YtokglpdlhacnaaaPkTagCycles0
import Derived.Test.YtokglpdlhacnaaaPkTagCycles1
import Derived.BigGuardPart
import Derived.Deep.RegionHeld3
import Derived.Deep.RegionLaw
import Derived.Deep.DeepCutAuto
namespace Go.Proofs.Ytokglpdlhacnaaa
open Go.RowKit

theorem OII.kb {b lo n c : Nat} {w w' : World} {e2 e1 : TypeId} {A : Option Addr} {ts : List Sl} (h : OII w lo e2 e1 A n c ts) (k : Kb b w w') (hb : b < lo) : OII w' lo e2 e1 A n c ts :=
  h.keptB fun x hx => by obtain ⟨h1, h2⟩ := h.blkB x hx; exact k.block x h2 (by omega)
theorem Blk.owns {w : World} {g : Nat} {t : TypeId} {cs : Array Value} {n s lo : Nat} (h : Blk w g t cs) (hs : cs.size = n * s) (hn : n ≤ maxLen) (hlo : lo ≤ g) : Own w lo t s (some ⟨g, 0, none⟩) n n cs.toList := by
  refine ⟨by simpa using hs, .inr ⟨g, 0, cs, rfl, hlo, h, Nat.le_refl _, hn, by omega, fun k hk => ?_⟩⟩
  simp at hk
  simp [hk]
/-- Words of at most some letters, below a bound. -/
def OkW (most : Nat) (L : Int) (us : List Sl) : Prop := ∀ u ∈ us, u.xs.length ≤ most ∧ ∀ x ∈ u.xs, 0 ≤ x ∧ x < L
def Drew (b : Nat) (A : Option Addr) (n c T : Nat) (N most : Nat) (L : Int) (w : World) (e : Ending) (w' : World) : Prop :=
  ∃ D d us, e = .returned (.slice D us.length d) ∧ OII w' w.heap.size 27 2 D us.length d us ∧ us.length = N ∧ OkW most L us ∧ Src b A n c T w' ∧ Kb b w w'
theorem Src.grown {b lo s n0 c0 : Nat} {e : TypeId} {E : Option Addr} {xs : List Value} {A : Option Addr} {n c T : Nat} {W W' : World} (h : Src b A n c T W) (ho : Own W lo e s E n0 c0 xs) (hb : b < lo) (hg : W.grownBy W' (blk E)) : Src b A n c T W' := by
  obtain ⟨a, s, h1, h2, h3, h4⟩ := h
  exact ⟨a, s, h1, h2, h3, (hg.block b h4.lt (fun e => by have := ho.blk_ge b e.symm; omega)).trans h4⟩
set_option maxRecDepth 100000 in
set_option maxHeartbeats 8000000 in
theorem drawWords_any (b : Nat) (A : Option Addr) (n c T : Nat) (xs : List Int) (N most : Nat) (L : Int) (w : World) (hx : SB w A n xs) (hA : ∀ k, blk A = some k → k ≠ b) (hs : Src b A n c T w) (hb : b < w.heap.size) (hT : T ≤ 1000000) (hn : n ≤ 9223372036854775807) (hN : N ≤ 50) (hmost : most ≤ 40) (hL : 1 ≤ L) (hL2 : L ≤ 200) :
    Calls Try.prog 80 #[.pointer (some ⟨b, 0, none⟩), .int .i64 (N : Int), .int .i64 L, .int .i64 (most : Int)] w (Drew b A n c (T + N * 100) N most L w) := by
  have HX := Lib.hid hx
  have HA := Lib.hid hA
  have HS := Lib.hid hs
  clear hx hA hs
  obtain ⟨W1, hW_⟩ : ∃ W_, W_ = w.alloc (.cells #[] 27) := ⟨_, rfl⟩
  have b1 : Blk W1 w.heap.size 27 #[] := by rw [hW_]; exact Blk.new w _ _
  have z1 : Below w.heap.size w W1 := by rw [hW_]; exact (Below.refl _ _).alloc (Nat.le_refl _) _
  have HW1 := Lib.hid hW_
  clear hW_
  have o1 : OII W1 w.heap.size 27 2 (some ⟨w.heap.size, 0, none⟩) 0 0 [] := OII.nil (Blk.owns (n := 0) (s := 1) b1 rfl (by simp [maxLen]) (Nat.le_refl _))
  go_enter Try.func80, Try.ntmps80
  go_upto_region 2 with fail
  rw [← HW1.out]
  clear HW1 b1
  go_wp2_with fail
  go_loopw [1, 9] (fun k v wr => ∃ (m : Nat) (D : Option Addr) (d : Nat) (us : List Sl), m ≤ N ∧ k = .int .i64 (m : Int) ∧ v = .slice D us.length d ∧ OII wr w.heap.size 27 2 D us.length d us ∧ Hid (us.length + m = N) ∧ Hid (OkW most L us) ∧ Hid (Src b A n c (T + us.length * 100) wr) ∧ Hid (Kb b w wr)) (fun k _ _ => (intOf k).toNat)
  case atStart => exact ⟨N, _, 0, [], Nat.le_refl _, rfl, rfl, o1, Lib.hid (by simp), Lib.hid (fun u hu => absurd hu (by simp)), Lib.hid (by simpa using HS.out.below z1), Lib.hid (Kb.of_below z1)⟩
  case round =>
    obtain ⟨m, D, d, us, hm, rfl, rfl, hU, HM, HOK, HSr, HK⟩ := hrel
    rename World => W0
    clear o1 z1
    by_cases hm0 : 0 < m
    · have hus : us.length ≤ 50 := by have := HM.out; omega
      have HSZ : Hid (w.heap.size ≤ W0.heap.size) := Lib.hid HK.out.size
      obtain ⟨W2, hW_⟩ : ∃ W_, W_ = W0.alloc (.cells #[] 2) := ⟨_, rfl⟩
      have b2 : Blk W2 W0.heap.size 2 #[] := by rw [hW_]; exact Blk.new W0 _ _
      have z2 : Below W0.heap.size W0 W2 := by rw [hW_]; exact (Below.refl _ _).alloc (Nat.le_refl _) _
      have HW2 := Lib.hid hW_
      clear hW_
      have o2 : Own W2 W0.heap.size 2 1 (some ⟨W0.heap.size, 0, none⟩) 0 0 (ints []) := Blk.owns (n := 0) (s := 1) b2 rfl (by simp [maxLen]) (Nat.le_refl _)
      have HS2 := Lib.hid (HSr.out.below z2)
      have HK2 := Lib.hid (HK.out.trans (Kb.of_below z2))
      have HKz := Lib.hid (Kb.of_below (b := b) z2)
      go_upto_region 5 with fail
      rw [← HW2.out]
      clear HW2 b2 z2
      have HX2 := Lib.hid (HX.out.kb HK2.out HA.out)
      go_upto_region 6 with (go_at_call 38; refine (pick_any b A n c (T + us.length * 100) xs ((most : Int) + 1) _ HX2.out HA.out HS2.out (by omega) hn (by omega) (by omega)).mono ?_; rintro e1 w1 ⟨x, rfl, hx0, hx1, hs1, hk1⟩)
      obtain ⟨q0, rfl⟩ : ∃ q0 : Nat, x = (q0 : Int) := ⟨x.toNat, by omega⟩
      have hq0 : q0 ≤ most := by omega
      have HS3 := Lib.hid hs1
      have HK3 := Lib.hid (HKz.out.trans hk1)
      have o3 := Lib.hid (hk1.own' o2 (by have := HSZ.out; omega))
      clear hs1 hk1 hx0 hx1 HS2 HK2 HX2 HKz o2
      go_wp2_with fail
      go_loopw [10, 11] (fun v k wr => ∃ (q : Nat) (E : Option Addr) (e : Nat) (ys : List Int), q ≤ q0 ∧ k = .int .i64 (q : Int) ∧ v = .slice E ys.length e ∧ Own wr W0.heap.size 2 1 E ys.length e (ints ys) ∧ Hid (ys.length + q = q0) ∧ Hid (∀ x ∈ ys, 0 ≤ x ∧ x < L) ∧ Hid (Src b A n c (T + us.length * 100 + 2 + 2 * ys.length) wr) ∧ Hid (Kb b W0 wr)) (fun _ k _ => (intOf k).toNat)
      case atStart => exact ⟨q0, _, 0, [], Nat.le_refl _, rfl, rfl, o3.out, Lib.hid (by simp), Lib.hid (by simp), HS3, HK3⟩
      case round =>
        obtain ⟨q, E, e, ys, hq, rfl, rfl, hE, HQ, HY, HSq, HKq⟩ := hrel
        clear o3 HS3 HK3
        by_cases hq1 : 0 < q
        · have hyl : ys.length ≤ 40 := by have := HQ.out; omega
          have HXq := Lib.hid (HX.out.kb (HK.out.trans HKq.out) HA.out)
          have HBW : Hid (b < W0.heap.size) := Lib.hid (by have := HSZ.out; omega)
          go_wp2_with fail
          refine (pick_any b A n c (T + us.length * 100 + 2 + 2 * ys.length) xs L _ HXq.out HA.out HSq.out (by omega) hn (by omega) (by omega)).mono ?_
          rintro e1 w1 ⟨y, rfl, hy0, hy1, hs1, hk1⟩
          have hE1 := hk1.own' hE HBW.out
          have HK4 := Lib.hid (HKq.out.trans hk1)
          have HS4 := Lib.hid hs1
          have HYY : Hid (∀ x ∈ ys ++ [y], 0 ≤ x ∧ x < L) := Lib.hid (by
            intro x hx
            rcases List.mem_append.1 hx with h | h
            · exact HY.out x h
            · rw [List.mem_singleton.1 h]; exact ⟨hy0, by omega⟩)
          clear hs1 hk1 hy1 hy0
          go_wp2_with (at_builtin; refine wpList_append_Own rfl (.tmp 26) (.tmp 30) rfl elI (lo := W0.heap.size) rfl (hE1.alloc _) rfl (Rd.new1 _ (.int .i64 y) _) (by simp [Value.oneCell']) (by omega) (by simp only [maxLen]; omega) (by have := HK4.out.size; simp; omega) ?_; intro A5 c5 W5 o5 hg5 hw5)
          have HK5 : Hid (Kb b W0 W5) := Lib.hid ((HK4.out.alloc _).grown (hE1.alloc _) (Nat.le_refl _) hg5)
          have HS5 : Hid (Src b A n c (T + us.length * 100 + 2 + 2 * (ys ++ [y]).length) W5) := Lib.hid (by
            rw [List.length_append]
            exact ((HS4.out.alloc _).grown (hE1.alloc _) HBW.out hg5).le (by simp; omega))
          have o6 : Own W5 W0.heap.size 2 1 A5 (ys ++ [y]).length c5 (ints (ys ++ [y])) := by
            rw [List.length_append, ← ints_append]; exact o5
          have HLL : Hid (ys.length + 1 = (ys ++ [y]).length) := Lib.hid (by rw [List.length_append]; rfl)
          have HQ5 : Hid ((ys ++ [y]).length + (q - 1) = q0) := Lib.hid (by rw [← HLL.out]; have := HQ.out; omega)
          go_wp2_with fail
          go_roundw
          case rel => exact ⟨q - 1, A5, c5, ys ++ [y], by omega, by go_num, by rw [← HLL.out], o6, HQ5, HYY, HS5, HK5⟩
          case measure => simp [intOf]; omega
        · obtain rfl : q = 0 := by omega
          have HYL : Hid (ys.length = q0) := Lib.hid (by have := HQ.out; omega)
          have hU1 := hU.kb HKq.out hb
          go_wp2_with (at_builtin; refine wpList_append_Own rfl (.tmp 32) (.tmp 34) rfl elII (lo := w.heap.size) rfl (hU1.alloc _).1 rfl (Rd.new1 _ (.slice E ys.length e) _) (by simp [Value.oneCell']) (by omega) (by simp only [maxLen]; omega) (by have := HK.out.size; have := HKq.out.size; simp; omega) ?_; intro A5 c5 W5 o5 hg5 hw5)
          have hU5 : OII W5 w.heap.size 27 2 A5 (us ++ ([⟨E, e, ys⟩] : List Sl)).length c5 (us ++ ([⟨E, e, ys⟩] : List Sl)) := by
            rw [List.length_append]
            exact OII.snoc (wa := W0) hU (hU1.alloc _) o5 hg5 (hE.alloc _) (Nat.le_refl _) HK.out.size (by decide)
          have HK5 : Hid (Kb b w W5) := Lib.hid (((HK.out.trans HKq.out).alloc _).grown (hU1.alloc _).1 (Nat.le_refl _) hg5)
          have HS5 : Hid (Src b A n c (T + (us ++ ([⟨E, e, ys⟩] : List Sl)).length * 100) W5) := Lib.hid (by
            rw [List.length_append]
            exact ((HSq.out.alloc _).grown (hU1.alloc _).1 hb hg5).le (by have := HYL.out; simp; omega))
          have HLL : Hid (us.length + 1 = (us ++ ([⟨E, e, ys⟩] : List Sl)).length) := Lib.hid (by rw [List.length_append]; rfl)
          have HM5 : Hid ((us ++ ([⟨E, e, ys⟩] : List Sl)).length + (m - 1) = N) := Lib.hid (by rw [← HLL.out]; have := HM.out; omega)
          have HOK5 : Hid (OkW most L (us ++ ([⟨E, e, ys⟩] : List Sl))) := Lib.hid (by
            intro u hu
            rcases List.mem_append.1 hu with h | h
            · exact HOK.out u h
            · rw [List.mem_singleton.1 h]; exact ⟨by have := HYL.out; show ys.length ≤ most; omega, HY.out⟩)
          go_wp2_with fail
          go_roundw
          case rel => exact ⟨m - 1, A5, c5, us ++ ([⟨E, e, ys⟩] : List Sl), by omega, by go_num, by rw [← HLL.out], hU5, HM5, HOK5, HS5, HK5⟩
          case measure => simp [intOf]; omega
    · obtain rfl : m = 0 := by omega
      have HE : Hid (Drew b A n c (T + N * 100) N most L w (.returned (.slice D us.length d)) W0) := Lib.hid (by
        have h1 : us.length = N := by have := HM.out; omega
        exact ⟨D, d, us, rfl, hU, h1, HOK.out, by rw [← h1]; exact HSr.out, HK.out⟩)
      go_wp2_with fail
      go_ret
      exact HE.out
end Go.Proofs.Ytokglpdlhacnaaa

/-
  The first row with a property. No program is in sight.
-/
namespace Go.Proofs.Ytokglpdlhacnaaa
open Go.RowKit

def firstB (p : List Int → Bool) (xss : List (List Int)) : Int := match xss.findIdx? p with | some k => k | none => -1
theorem firstB_at {p : List Int → Bool} {ts : List Sl} {t : Sl} {k : Nat} (hT : ts[k]? = some t) (h : p t.xs = true) (he : ((nums ts).take k).any p = false) : (k : Int) = firstB p (nums ts) := by
  unfold firstB
  obtain ⟨hk, rfl⟩ := List.getElem?_eq_some_iff.1 hT
  have : (nums ts).findIdx? p = some k := by
    rw [List.findIdx?_eq_some_iff_getElem]
    refine ⟨by simpa [nums] using hk, by simpa [nums] using h, fun j hj => ?_⟩
    rw [List.any_eq_false] at he
    have := he ((nums ts)[j]'(by simp [nums]; omega)) (by rw [List.mem_take_iff_getElem]; exact ⟨j, by simp [nums]; omega, rfl⟩)
    simpa using this
  rw [this]
theorem firstB_none {p : List Int → Bool} {ts : List Sl} {k n : Nat} (hk : n ≤ k) (hl : ts.length = n) (he : ((nums ts).take k).any p = false) : -1 = firstB p (nums ts) := by
  unfold firstB
  rw [List.take_of_length_le (by simp [nums]; omega)] at he
  have : (nums ts).findIdx? p = none := by
    rw [List.findIdx?_eq_none_iff]
    intro x hx
    rw [List.any_eq_false] at he
    simpa using he x hx
  rw [this]
theorem firstB_next {p : List Int → Bool} {ts : List Sl} {t : Sl} {k : Nat} (hT : ts[k]? = some t) (h : p t.xs = false) (he : ((nums ts).take k).any p = false) : ((nums ts).take (k + 1)).any p = false := by
  obtain ⟨hk, rfl⟩ := List.getElem?_eq_some_iff.1 hT
  rw [List.take_succ_eq_append_getElem (by simpa [nums] using hk), List.any_append, he]
  simpa [nums] using h
theorem firstB_ge (p : List Int → Bool) (xss : List (List Int)) : decide (0 ≤ firstB p xss) = xss.any p := by
  unfold firstB
  cases h : xss.findIdx? p with
  | some k =>
    obtain ⟨hk, hp, _⟩ := List.findIdx?_eq_some_iff_getElem.1 h
    have : xss.any p = true := List.any_eq_true.2 ⟨_, List.getElem_mem hk, hp⟩
    rw [this]; simp
  | none =>
    have : xss.any p = false := by rw [List.any_eq_false]; intro x hx; simpa using List.findIdx?_eq_none_iff.1 h x hx
    rw [this]; simp
end Go.Proofs.Ytokglpdlhacnaaa

/-
  Contracts of impl's small functions that the tag systems use.
-/
namespace Go.Proofs.Ytokglpdlhacnaaa
open Go.RowKit

theorem sizeII_any (A : Option Addr) (n c : Nat) (w : World) (_h : n ≤ 9223372036854775807) :
    Calls Try.prog 130 #[.slice A n c] w fun e w' => e = .returned (.int .i64 n) ∧ w = w' := by
  go_enter Try.func130, Try.ntmps130
  go_wp2
  go_ret
  exact ⟨rfl, rfl⟩
def tagWordB (xs : List Int) (letters : Int) : Bool := decide (xs.length ≤ 1000) && allIn xs 0 (letters - 1)
set_option maxHeartbeats 400000 in
theorem isTagWord_any (A : Option Addr) (n c : Nat) (xs : List Int) (letters : Int) (w : World) (hx : SI w A n xs) (hn : n ≤ 9223372036854775807) (h1 : 0 ≤ letters) (h2 : letters ≤ 9223372036854775807) :
    Calls Try.prog 129 #[.slice A n c, .int .i64 letters] w fun e w' => e = .returned (.bool (tagWordB xs letters)) ∧ w = w' := by
  have hl := Lib.hid hx.len
  by_cases h3 : n ≤ 1000
  · have h4 : (n : Int) ≤ 1000 := by omega
    go_enter Try.func129, Try.ntmps129
    go_wp2_with (go_at_call 68; refine (allWithin_any _ _ _ _ _ _ _ hx hn).mono ?_; rintro e w' ⟨rfl, rfl⟩)
    go_ret
    exact ⟨ret_bool (by unfold tagWordB; rw [hl.out]; simp [h3]), rfl⟩
  · have h4 : ¬ (n : Int) ≤ 1000 := by omega
    go_enter Try.func129, Try.ntmps129
    go_wp2
    go_ret
    exact ⟨ret_bool (by unfold tagWordB; rw [hl.out]; simp; omega), rfl⟩

def risesB (xs : List Int) : Bool := decide (xs.Pairwise (· < ·))
theorem rises_next {xs : List Int} {k : Nat} (h : (xs.take k).Pairwise (· < ·)) (h0 : 1 ≤ k) (hk : k < xs.length) (hlt : xs[k - 1] < xs[k]) : (xs.take (k + 1)).Pairwise (· < ·) := by
  rw [List.take_succ_eq_append_getElem hk, List.pairwise_append]
  refine ⟨h, by simp, fun a ha b hb => ?_⟩
  simp at hb; subst hb
  obtain ⟨j, hj, rfl⟩ := List.getElem_of_mem ha
  simp at hj
  rw [List.getElem_take]
  by_cases hjk : j = k - 1
  · subst hjk; exact hlt
  · have h2 := List.pairwise_iff_getElem.1 h j (k - 1) (by simp; omega) (by simp; omega) (by omega)
    rw [List.getElem_take, List.getElem_take] at h2
    omega
theorem rises_not {xs : List Int} {k : Nat} (h0 : 1 ≤ k) (hk : k < xs.length) (hge : xs[k] ≤ xs[k - 1]) : false = risesB xs := by
  symm; unfold risesB; rw [decide_eq_false_iff_not]; intro h
  have := List.pairwise_iff_getElem.1 h (k - 1) k (by omega) hk (by omega)
  omega
theorem rises_end {xs : List Int} {k n : Nat} (hk : n ≤ k) (hl : xs.length = n) (h : (xs.take k).Pairwise (· < ·)) : true = risesB xs := by
  rw [List.take_of_length_le (by omega)] at h
  symm; unfold risesB; rw [decide_eq_true_iff]; exact h
set_option maxHeartbeats 400000 in
theorem rising_any (A : Option Addr) (n c : Nat) (xs : List Int) (w : World) (hx : SI w A n xs) (hn : n ≤ 9223372036854775800) :
    Calls Try.prog 126 #[.slice A n c] w fun e w' => e = .returned (.bool (risesB xs)) ∧ ∃ q, w' = w.drewN q := by
  go_enter Try.func126, Try.ntmps126
  go_wp2
  go_loopw [3] (fun i wr => ∃ k q : Nat, 1 ≤ k ∧ k ≤ n + 1 ∧ i = .int .i64 k ∧ Hid ((xs.take k).Pairwise (· < ·)) ∧ wr = w.drewN q) (fun i _ => n + 1 - (intOf i).toNat)
  case atStart => exact ⟨1, 0, by omega, by omega, rfl, by rcases xs with _ | ⟨a, r⟩ <;> simp [Hid], rfl⟩
  case round =>
    obtain ⟨k, q, hk1, hk, rfl, he, rfl⟩ := hrel
    by_cases hlt : k < n
    · obtain ⟨b, off, rfl, _, hc⟩ := hx.at_ hlt
      obtain ⟨b', off', he', _, hc'⟩ := hx.at_ (k := k - 1) (by omega)
      simp only [Option.some.injEq, Addr.mk.injEq, and_true] at he'
      obtain ⟨rfl, rfl⟩ := he'
      have i1 : (0 : Int) ≤ (k : Int) - 1 := by omega
      have i2 : ((k : Int) - 1).toNat = k - 1 := by omega
      go_wp2
      go_quiet (fail)
      clear i2
      have HXL := Lib.hid hx.len
      go_wp2
      · go_ret
        exact ⟨ret_bool (rises_not hk1 (by have := HXL.out; omega) (by assumption)), _, World.drewN_drewN _ _ _⟩
      · exact ⟨⟨k + 1, _, by omega, by omega, by go_num, rises_next he.out hk1 (by have := HXL.out; omega) (by omega), rfl⟩, by simp [intOf]; omega⟩
    · go_wp2
      go_ret
      exact ⟨ret_bool (rises_end (by omega) hx.len he.out), _, rfl⟩

/-- The closure of wordsOk: its parameter, then the captured number's place. -/
theorem wordsOk1_any (A : Option Addr) (n c : Nat) (xs : List Int) (letters : Int) (b off : Nat) (w : World) (hx : SI w A n xs) (hn : n ≤ 9223372036854775807) (h1 : 0 ≤ letters) (h2 : letters ≤ 9223372036854775807)
    (hc : w.cell? ⟨b, off, none⟩ = some (.int .i64 letters)) :
    Calls Try.prog 158 #[.slice A n c, .pointer (some ⟨b, off, none⟩)] w fun e w' => e = .returned (.bool (!tagWordB xs letters)) ∧ w = w' := by
  go_enter Try.func158, Try.ntmps158
  go_wp2_with (go_at_call 129; refine (isTagWord_any _ _ _ _ _ _ hx hn h1 h2).mono ?_; rintro e w' ⟨rfl, rfl⟩)
  go_ret
  exact ⟨rfl, rfl⟩

set_option maxHeartbeats 400000 in
theorem indexFuncII_any (A : Option Addr) (n c : Nat) (ts : List Sl) (f : FuncId) (cp : Value) (p : List Int → Bool) (w : World) (hx : SII w A n ts) (hn : n ≤ 9223372036854775807) (hcall : ∀ (args : Array Value) (w : World), (callFunc f args).run Try.prog w = .ok (.enter f args) w)
    (hf : Hid (∀ t ∈ ts, Calls Try.prog f #[.slice t.A t.xs.length t.c, cp] w fun e w' => e = .returned (.bool (p t.xs)) ∧ w = w')) :
    Calls Try.prog 154 #[.slice A n c, .func (.func f) #[] #[cp]] w fun e w' => e = .returned (.int .i64 (firstB p (nums ts))) ∧ w = w' := by
  go_enter Try.func154, Try.ntmps154
  go_wp2
  go_loop [8] (fun i => ∃ k : Nat, k ≤ n ∧ i = .int .i64 k ∧ Hid (((nums ts).take k).any p = false)) (fun i => n - (intOf i).toNat)
  case atStart => exact ⟨0, by omega, rfl, rfl⟩
  case round =>
    obtain ⟨k, hk, rfl, he⟩ := hrel
    by_cases hlt : k < n
    · obtain ⟨t, b, off, hT, htm, rfl, _, hc, hr⟩ := hx.pick hlt
      go_wp2_with fail
      refine (hf.out t htm).mono ?_
      rintro e w' ⟨rfl, rfl⟩
      cases hp : p t.xs
      · have HP := Lib.hid hp
        clear hp
        go_wp2
        exact ⟨⟨k + 1, by omega, by go_num, firstB_next hT.out HP.out he.out⟩, by simp [intOf]; omega⟩
      · have HP := Lib.hid hp
        clear hp
        go_wp2
        go_ret
        exact ⟨ret_int (firstB_at hT.out HP.out he.out), rfl⟩
    · go_wp2
      go_ret
      exact ⟨ret_int (firstB_none (by omega) hx.len he.out), rfl⟩

set_option maxHeartbeats 400000 in
theorem containsFuncII_any (A : Option Addr) (n c : Nat) (ts : List Sl) (f : FuncId) (cp : Value) (p : List Int → Bool) (w : World) (hx : SII w A n ts) (hn : n ≤ 9223372036854775807) (hcall : ∀ (args : Array Value) (w : World), (callFunc f args).run Try.prog w = .ok (.enter f args) w)
    (hf : Hid (∀ t ∈ ts, Calls Try.prog f #[.slice t.A t.xs.length t.c, cp] w fun e w' => e = .returned (.bool (p t.xs)) ∧ w = w')) :
    Calls Try.prog 139 #[.slice A n c, .func (.func f) #[] #[cp]] w fun e w' => e = .returned (.bool ((nums ts).any p)) ∧ w = w' := by
  go_enter Try.func139, Try.ntmps139
  go_wp2_with (go_at_call 154; refine (indexFuncII_any _ _ _ ts _ _ p _ hx hn hcall hf).mono ?_; rintro e w' ⟨rfl, rfl⟩)
  go_ret
  exact ⟨ret_bool (firstB_ge p (nums ts)), rfl⟩

def wordsB (xss : List (List Int)) (letters : Int) : Bool := xss.all (fun xs => tagWordB xs letters)
theorem wordsB_not (xss : List (List Int)) (letters : Int) : (!xss.any (fun xs => !tagWordB xs letters)) = wordsB xss letters := by
  unfold wordsB; rw [List.not_any_eq_all_not]; simp

set_option maxHeartbeats 400000 in
theorem wordsOk_any (A : Option Addr) (n c : Nat) (ts : List Sl) (letters : Int) (w : World) (hx : SII w A n ts) (hn : n ≤ 9223372036854775807) (hns : ∀ t ∈ ts, t.xs.length ≤ 9223372036854775807) (h1 : 0 ≤ letters) (h2 : letters ≤ 9223372036854775807) :
    Calls Try.prog 147 #[.slice A n c, .int .i64 letters] w fun e w' => e = .returned (.bool (wordsB (nums ts) letters)) ∧ Below w.heap.size w w' := by
  have hw1 : (w.alloc (.cells #[.int .i64 letters] 2)).cell? ⟨w.heap.size, 0, none⟩ = some (.int .i64 letters) := by rw [cell_of_row _ w.heap.size 0 #[.int .i64 letters] 2 (0, 0) (heap_alloc_new w _)]; rfl
  have HW := Lib.hid hw1
  clear hw1
  go_enter Try.func147, Try.ntmps147
  go_wp2_with fail
  refine (containsFuncII_any _ _ _ ts _ _ (fun xs => !tagWordB xs letters) _ (hx.alloc _) hn Try.call158 (fun t ht => wordsOk1_any _ _ _ _ _ _ _ _ ((hx.alloc _).2 t ht) (hns t ht) h1 h2 HW.out)).mono ?_
  rintro e w' ⟨rfl, rfl⟩
  go_wp2
  go_ret
  exact ⟨ret_bool (wordsB_not _ _), (Below.refl _ _).alloc (Nat.le_refl _) _⟩

/-- Tag values: the struct as the walk has it. -/
abbrev tagV (d : Int) (A : Option Addr) (n c : Nat) (B : Option Addr) (m k : Nat) : Value := .agg #[.int .i64 d, .slice A n c, .slice B m k]

def validTagB (d : Int) (words : List (List Int)) (halting : List Int) : Bool :=
  inB d 1 4 && inB words.length 1 200 && wordsB words words.length && risesB halting && allIn halting 0 (words.length - 1)

set_option maxHeartbeats 1000000 in
theorem validTag_any (d : Int) (A : Option Addr) (n c : Nat) (ts : List Sl) (B : Option Addr) (m k : Nat) (hs : List Int) (w : World) (hx : SII w A n ts) (hy : SI w B m hs) (hn : n ≤ 1048576) (hm : m ≤ 1048576) (hns : ∀ t ∈ ts, t.xs.length ≤ 9223372036854775807) :
    Calls Try.prog 128 #[.agg #[.int .i64 d, .slice A n c, .slice B m k]] w fun e w' => e = .returned (.bool (validTagB d (nums ts) hs)) ∧ Below w.heap.size w w' := by
  have HL : Hid ((nums ts).length = n) := by show _ = _; have := hx.len; simpa [nums] using this
  have hx1 := hx.alloc (.cells #[.int .i64 d, .slice A n c, .slice B m k] 70)
  have hy1 := hy.alloc (.cells #[.int .i64 d, .slice A n c, .slice B m k] 70)
  have hb1 : Below w.heap.size w (w.alloc (.cells #[.int .i64 d, .slice A n c, .slice B m k] 70)) := (Below.refl _ _).alloc (Nat.le_refl _) _
  go_enter Try.func128, Try.ntmps128
  go_wp2_with (first
    | (go_at_call 130; refine (sizeII_any _ _ _ _ (by omega)).mono ?_; rintro e w' ⟨rfl, rfl⟩)
    | (go_at_call 42; refine (within_any _ _ _ _).mono ?_; rintro e w' ⟨rfl, rfl⟩))
  · refine (wordsOk_any _ _ _ ts _ _ hx1 (by omega) hns (by omega) (by omega)).mono ?_
    rintro e w2 ⟨rfl, hb2⟩
    have q2 : w2.cell? ⟨w.heap.size, 2, none⟩ = some (.slice B m k) := box_at hb2 2
    have hz2 : w.heap.size < w2.heap.size := by have := hb2.size; simp at this; omega
    have hy2 := hy1.below hb2
    have hbb := below_box hb2
    cases hw : wordsB (nums ts) n
    · have HW := Lib.hid hw
      clear hw
      go_wp2_with fail
      go_ret
      exact ⟨ret_bool (by unfold validTagB; rw [HL.out, HW.out]; simp), hbb⟩
    · have HW := Lib.hid hw
      clear hw
      go_wp2_with (first
        | (go_at_call 126; refine (rising_any _ _ _ _ _ hy2 (by omega)).mono ?_; rintro e w' ⟨rfl, q, rfl⟩)
        | (go_at_call 68; refine (allWithin_any _ _ _ _ _ _ _ (hy2.drewN _) (by omega)).mono ?_; rintro e w' ⟨rfl, rfl⟩))
      all_goals go_ret
      · exact ⟨ret_bool (by unfold validTagB; rw [HL.out, HW.out]; simp [*]), below_drewN hbb _⟩
      · exact ⟨ret_bool (by unfold validTagB; rw [HL.out, HW.out]; simp [*]), below_drewN hbb _⟩
  · go_ret
    exact ⟨ret_bool (by unfold validTagB; rw [HL.out]; simp [*]), hb1⟩
  · go_ret
    exact ⟨ret_bool (by unfold validTagB; rw [HL.out]; simp [*]), hb1⟩
def tagCodeF (d : Int) (words : List (List Int)) (halting xs : List Int) : Int := if validTagB d words halting && tagWordB xs words.length then 0 else 1
def haltsB (d : Int) (halting xs : List Int) : Bool := decide ((xs.length : Int) < d) || decide (xs.headD 0 ∈ halting)
end Go.Proofs.Ytokglpdlhacnaaa

/-
  Contracts of impl's tag systems: tagCode, slices.Clone, tagRunOf, halts, slices.BinarySearch, step, StepTag.
-/
namespace Go.Proofs.Ytokglpdlhacnaaa
open Go.RowKit


set_option maxHeartbeats 1000000 in
theorem tagCode_any (d : Int) (A : Option Addr) (n c : Nat) (ts : List Sl) (B : Option Addr) (m k : Nat) (hs : List Int) (C : Option Addr) (l r : Nat) (xs : List Int) (w : World) (hx : SII w A n ts) (hy : SI w B m hs) (hz : SI w C l xs) (hn : n ≤ 1048576) (hm : m ≤ 1048576) (hl : l ≤ 1048576) (hns : ∀ t ∈ ts, t.xs.length ≤ 9223372036854775807) :
    Calls Try.prog 82 #[.agg #[.int .i64 d, .slice A n c, .slice B m k], .slice C l r] w fun e w' => e = .returned (.int .i64 (tagCodeF d (nums ts) hs xs)) ∧ Below w.heap.size w w' := by
  have HL : Hid ((nums ts).length = n) := by show _ = _; have := hx.len; simpa [nums] using this
  have hx1 := hx.alloc (.cells #[.int .i64 d, .slice A n c, .slice B m k] 70)
  have hy1 := hy.alloc (.cells #[.int .i64 d, .slice A n c, .slice B m k] 70)
  have hz1 := hz.alloc (.cells #[.int .i64 d, .slice A n c, .slice B m k] 70)
  go_enter Try.func82, Try.ntmps82
  go_wp2_with fail
  refine (validTag_any _ _ _ _ ts _ _ _ hs _ hx1 hy1 hn hm hns).mono ?_
  rintro e w2 ⟨rfl, hb2⟩
  have q2 : w2.cell? ⟨w.heap.size, 1, none⟩ = some (.slice A n c) := box_at hb2 1
  have hz2 : w.heap.size < w2.heap.size := by have := hb2.size; simp at this; omega
  have hzz := hz1.below hb2
  have hbb := below_box hb2
  cases hv : validTagB d (nums ts) hs
  · have HV := Lib.hid hv
    clear hv
    go_wp2_with fail
    go_ret
    exact ⟨ret_int (by unfold tagCodeF; rw [HV.out]; simp), hbb⟩
  · have HV := Lib.hid hv
    clear hv
    go_wp2_with (first
      | (go_at_call 130; refine (sizeII_any _ _ _ _ (by omega)).mono ?_; rintro e w' ⟨rfl, rfl⟩)
      | (go_at_call 129; refine (isTagWord_any _ _ _ _ _ _ hzz (by omega) (by omega) (by omega)).mono ?_; rintro e w' ⟨rfl, rfl⟩))
    all_goals go_ret
    · exact ⟨ret_int (by unfold tagCodeF; rw [HL.out, HV.out]; simp_all), hbb⟩
    · exact ⟨ret_int (by unfold tagCodeF; rw [HL.out, HV.out]; simp_all), hbb⟩

/-- A run of a tag system in memory: the block with the system's three cells and the queue's. -/
def RunAt (w : World) (g : Nat) (d : Int) (A : Option Addr) (n c : Nat) (B : Option Addr) (m k : Nat) (Q : Option Addr) (l r : Nat) : Prop :=
  w.heap[g]? = some (.cells #[.int .i64 d, .slice A n c, .slice B m k, .slice Q l r] 134 (0, 0))

def NewRun (w : World) (d : Int) (A : Option Addr) (n c : Nat) (B : Option Addr) (m k : Nat) (xs : List Int) (e : Ending) (w' : World) : Prop :=
  ∃ g Q r, e = .returned (.pointer (some ⟨g, 0, none⟩)) ∧ w.heap.size ≤ g ∧ RunAt w' g d A n c B m k Q xs.length r ∧ Own w' w.heap.size 2 1 Q xs.length r (ints xs) ∧ Below w.heap.size w w'

set_option maxHeartbeats 400000 in
theorem tagRunOf_any (d : Int) (A : Option Addr) (n c : Nat) (B : Option Addr) (m k : Nat) (C : Option Addr) (l r : Nat) (xs : List Int) (w : World) (hz : SI w C l xs) (hl : l ≤ 1048576) :
    Calls Try.prog 84 #[.agg #[.int .i64 d, .slice A n c, .slice B m k], .slice C l r] w (NewRun w d A n c B m k xs) := by
  have hz1 := hz.alloc (.cells #[.int .i64 d, .slice A n c, .slice B m k] 70)
  have q0 : (w.alloc (.cells #[.int .i64 d, .slice A n c, .slice B m k] 70)).cell? ⟨w.heap.size, 0, none⟩ = some (.int .i64 d) := box_at (Below.refl _ _) 0
  have q1 : (w.alloc (.cells #[.int .i64 d, .slice A n c, .slice B m k] 70)).cell? ⟨w.heap.size, 1, none⟩ = some (.slice A n c) := box_at (Below.refl _ _) 1
  have q2 : (w.alloc (.cells #[.int .i64 d, .slice A n c, .slice B m k] 70)).cell? ⟨w.heap.size, 2, none⟩ = some (.slice B m k) := box_at (Below.refl _ _) 2
  go_enter Try.func84, Try.ntmps84
  go_wp2_with fail
  obtain ⟨W, hW⟩ : ∃ W, W = w.alloc (.cells #[.int .i64 d, .slice A n c, .slice B m k] 70) := ⟨_, rfl⟩
  rw [← hW] at hz1 q0 q1 q2 ⊢
  have HW := Lib.hid hW
  clear hW
  have hWz : w.heap.size < W.heap.size := by rw [HW.out]; simp
  go_region_held3 (fun w' => w'.cell? ⟨w.heap.size, 0, none⟩ = some (.int .i64 d) ∧ w'.cell? ⟨w.heap.size, 1, none⟩ = some (.slice A n c) ∧ w'.cell? ⟨w.heap.size, 2, none⟩ = some (.slice B m k))
    (first
      | go_keep
      | (exact ⟨(hb.cell (p := ⟨w.heap.size, 0, none⟩) hWz).trans q0, (hb.cell (p := ⟨w.heap.size, 1, none⟩) hWz).trans q1, (hb.cell (p := ⟨w.heap.size, 2, none⟩) hWz).trans q2⟩))
    (first
      | (go_at_call 55; refine (cloneI_any _ _ _ xs _ (Rd.drewN hz1 1) hl).mono ?_; rintro e w' ⟨A2, c2, rfl, ho, hb⟩))
  go_wp2
  go_ret
  have hb0 : Below w.heap.size w w' := by
    have h1 : Below w.heap.size w W := by rw [HW.out]; exact (Below.refl _ _).alloc (Nat.le_refl _) _
    exact h1.trans ((below_drewN (Below.refl _ _) 1).trans (hb.mono (Nat.le_of_lt hWz)))
  have hwz : W.heap.size ≤ w'.heap.size := hb.size
  exact ⟨w'.heap.size, A2, c2, rfl, by omega, heap_alloc_new w' _, ((ho.mono (show w.heap.size ≤ W.heap.size by omega)).alloc _), hb0.alloc (by omega) _⟩

theorem runAt_cell {w : World} {g : Nat} {d : Int} {A : Option Addr} {n c : Nat} {B : Option Addr} {m k : Nat} {Q : Option Addr} {l r : Nat} (h : RunAt w g d A n c B m k Q l r) :
    w.cell? ⟨g, 0, none⟩ = some (.int .i64 d) ∧ w.cell? ⟨g, 1, none⟩ = some (.slice A n c) ∧ w.cell? ⟨g, 2, none⟩ = some (.slice B m k) ∧ w.cell? ⟨g, 3, none⟩ = some (.slice Q l r) :=
  ⟨cell_of_row w g 0 _ _ _ h, cell_of_row w g 1 _ _ _ h, cell_of_row w g 2 _ _ _ h, cell_of_row w g 3 _ _ _ h⟩

def lessB (a b : Int) : Bool := decide (a < b)
set_option maxHeartbeats 400000 in
theorem less_any (a b : Int) (w : World) : Calls Try.prog 167 #[.int .i64 a, .int .i64 b] w fun e w' => e = .returned (.bool (lessB a b)) ∧ w = w' := by
  go_enter Try.func167, Try.ntmps167
  go_wp2
  go_ret
  exact ⟨rfl, rfl⟩

theorem isNaN_any (a : Int) (w : World) : Calls Try.prog 198 #[.int .i64 a] w fun e w' => e = .returned (.bool false) ∧ w = w' := by
  go_enter Try.func198, Try.ntmps198
  go_wp2
  go_ret
  exact ⟨by simp, rfl⟩

/-- How many numbers are less: in a sorted list the place where a binary search ends. -/
def bsIdx (xs : List Int) (t : Int) : Nat := xs.countP (fun x => decide (x < t))
theorem bsIdx_eq {xs : List Int} {t : Int} {a : Nat} (ha : a ≤ xs.length) (h1 : ∀ j (h : j < xs.length), j < a → xs[j] < t) (h2 : ∀ j (h : j < xs.length), a ≤ j → t ≤ xs[j]) : bsIdx xs t = a := by
  unfold bsIdx
  have e1 : (xs.take a).countP (fun x => decide (x < t)) = a := by
    rw [List.countP_eq_length.2]
    · simp; omega
    · intro x hx
      obtain ⟨j, hj, rfl⟩ := List.getElem_of_mem hx
      simp at hj
      rw [List.getElem_take]; simpa using h1 j (by omega) (by omega)
  have e2 : (xs.drop a).countP (fun x => decide (x < t)) = 0 := by
    rw [List.countP_eq_zero]
    intro x hx
    obtain ⟨j, hj, rfl⟩ := List.getElem_of_mem hx
    simp at hj
    have := h2 (a + j) (by omega) (by omega)
    rw [List.getElem_drop]; simpa using this
  have e3 : xs.countP (fun x => decide (x < t)) = (xs.take a ++ xs.drop a).countP (fun x => decide (x < t)) := by rw [List.take_append_drop]
  rw [e3, List.countP_append, e1, e2]; omega
theorem bs_lo {xs : List Int} {t : Int} {a b : Nat} (hs : xs.Pairwise (· < ·)) (hl : (a + b) / 2 < xs.length) (h : xs[(a + b) / 2] < t) : ∀ j (hj : j < xs.length), j < (a + b) / 2 + 1 → xs[j] < t := by
  intro j hj h2
  by_cases e : j = (a + b) / 2
  · subst e; exact h
  · have := List.pairwise_iff_getElem.1 hs j ((a + b) / 2) hj hl (by omega)
    omega
theorem bs_hi {xs : List Int} {t : Int} {a b : Nat} (hs : xs.Pairwise (· < ·)) (hl : (a + b) / 2 < xs.length) (h : ¬ xs[(a + b) / 2] < t) : ∀ j (hj : j < xs.length), (a + b) / 2 ≤ j → t ≤ xs[j] := by
  intro j hj h2
  by_cases e : j = (a + b) / 2
  · subst e; omega
  · have := List.pairwise_iff_getElem.1 hs ((a + b) / 2) j hl hj (by omega)
    omega
theorem bs_in {xs : List Int} {t : Int} {a : Nat} (hs : xs.Pairwise (· < ·)) (h1 : ∀ j (h : j < xs.length), j < a → xs[j] < t) (h2 : ∀ j (h : j < xs.length), a ≤ j → t ≤ xs[j]) (ha : a < xs.length) : decide (t ∈ xs) = (xs[a] == t) := by
  by_cases e : xs[a] = t
  · have : t ∈ xs := e ▸ List.getElem_mem ha
    simp [this, e]
  · have : ¬ t ∈ xs := by
      intro hm
      obtain ⟨j, hj, rfl⟩ := List.getElem_of_mem hm
      rcases Nat.lt_trichotomy j a with h | h | h
      · have := h1 j hj h; omega
      · subst h; exact e rfl
      · have := List.pairwise_iff_getElem.1 hs a j ha hj h
        have := h2 a ha (Nat.le_refl _); omega
    simp [this, e]
theorem bs_out {xs : List Int} {t : Int} {a : Nat} (h1 : ∀ j (h : j < xs.length), j < a → xs[j] < t) (ha : xs.length ≤ a) : decide (t ∈ xs) = false := by
  rw [decide_eq_false_iff_not]
  intro hm
  obtain ⟨j, hj, rfl⟩ := List.getElem_of_mem hm
  have := h1 j hj (by omega); omega

set_option maxHeartbeats 400000 in
theorem binarySearchI_any (A : Option Addr) (n c : Nat) (xs : List Int) (t : Int) (w : World) (hx : SI w A n xs) (hn : n ≤ 1048576) (hs : Hid (xs.Pairwise (· < ·))) :
    Calls Try.prog 197 #[.slice A n c, .int .i64 t] w fun e w' => e = .returned (.tuple #[.int .i64 (bsIdx xs t), .bool (decide (t ∈ xs))]) ∧ w = w' := by
  go_enter Try.func197, Try.ntmps197
  go_wp2_with fail
  go_loop [7, 8, 9] (fun i j _ => ∃ a b : Nat, a ≤ b ∧ b ≤ n ∧ i = .int .i64 a ∧ j = .int .i64 b ∧ Hid ((∀ j (h : j < xs.length), j < a → xs[j] < t) ∧ (∀ j (h : j < xs.length), b ≤ j → t ≤ xs[j]))) (fun i j _ => (intOf j - intOf i).toNat)
  case atStart => exact ⟨0, n, by omega, by omega, rfl, rfl, fun _ _ h => absurd h (by omega), fun j h h2 => absurd h (by have := hx.len; omega)⟩
  case round =>
    obtain ⟨a, b, hab, hbn, rfl, rfl, he⟩ := hrel
    by_cases hlt : a < b
    · have hmn : (a + b) / 2 < n := by omega
      have HXL := Lib.hid hx.len
      obtain ⟨bb, off, rfl, _, hc⟩ := hx.at_ hmn
      by_cases hl : xs[(a + b) / 2]'(by have := HXL.out; omega) < t
      · have HS : Hid (lessB (xs[(a + b) / 2]'(by have := HXL.out; omega)) t = true) := by show _ = _; simpa [lessB] using hl
        have HB := Lib.hid (bs_lo hs.out (by have := HXL.out; omega) hl)
        clear hl
        go_wp2_with (go_at_call 167; refine (less_any _ _ _).mono ?_; rintro e w' ⟨rfl, rfl⟩; rw [HS.out])
        exact ⟨⟨(a + b) / 2 + 1, b, by omega, by omega, by go_num, rfl, HB.out, he.out.2⟩, by simp [intOf]; omega⟩
      · have HS : Hid (lessB (xs[(a + b) / 2]'(by have := HXL.out; omega)) t = false) := by show _ = _; simpa [lessB] using hl
        have HB := Lib.hid (bs_hi hs.out (by have := HXL.out; omega) hl)
        clear hl
        go_wp2_with (go_at_call 167; refine (less_any _ _ _).mono ?_; rintro e w' ⟨rfl, rfl⟩; rw [HS.out])
        exact ⟨⟨a, (a + b) / 2, by omega, by omega, rfl, by go_num, he.out.1, HB.out⟩, by simp [intOf]; omega⟩
    · obtain rfl : a = b := by omega
      by_cases han : a < n
      · have HXL := Lib.hid hx.len
        obtain ⟨bb, off, rfl, _, hc⟩ := hx.at_ han
        have HIN := Lib.hid (bs_in hs.out he.out.1 he.out.2 (by have := HXL.out; omega))
        cases hq : (xs[a]'(by have := HXL.out; omega) == t)
        · have HQ := Lib.hid hq
          go_wp2_with (go_at_call 198; refine (isNaN_any _ _).mono ?_; rintro e w' ⟨rfl, rfl⟩)
          go_ret2
          exact ⟨by rw [HIN.out, HQ.out, bsIdx_eq (by have := HXL.out; omega) he.out.1 he.out.2]; rfl, rfl⟩
        · have HQ := Lib.hid hq
          go_wp2_with (go_at_call 198; refine (isNaN_any _ _).mono ?_; rintro e w' ⟨rfl, rfl⟩)
          go_ret2
          exact ⟨by rw [HIN.out, HQ.out, bsIdx_eq (by have := HXL.out; omega) he.out.1 he.out.2]; rfl, rfl⟩
      · have HXL := Lib.hid hx.len
        have HIN := Lib.hid (bs_out he.out.1 (by have := HXL.out; omega))
        go_wp2_with fail
        go_ret2
        exact ⟨by rw [HIN.out, bsIdx_eq (by have := HXL.out; omega) he.out.1 he.out.2]; rfl, rfl⟩


set_option maxHeartbeats 1000000 in
theorem tagHalts_any (g : Nat) (d : Int) (A : Option Addr) (n c : Nat) (B : Option Addr) (m k : Nat) (hs : List Int) (Q : Option Addr) (l r : Nat) (xs : List Int) (w : World) (hr : RunAt w g d A n c B m k Q l r) (hy : SI w B m hs) (hz : SI w Q l xs)
    (hm : m ≤ 1048576) (hl : l ≤ 1048576) (hd : 1 ≤ d) (hri : Hid (hs.Pairwise (· < ·))) :
    Calls Try.prog 194 #[.pointer (some ⟨g, 0, none⟩)] w fun e w' => e = .returned (.bool (haltsB d hs xs)) ∧ ∃ q, w' = w.drewN q := by
  obtain ⟨c0, c1, c2, c3⟩ := runAt_cell hr
  have HL := Lib.hid hz.len
  by_cases hld : (l : Int) < d
  · go_enter Try.func194, Try.ntmps194
    go_wp2_with fail
    go_quiet ((go_at_call 127; exact quiet_left (sizeI_any _ _ _ _ (by omega))))
    go_wp2_with fail
    go_ret
    exact ⟨ret_bool (by unfold haltsB; rw [HL.out]; simp [hld]), _, rfl⟩
  · have hl0 : 0 < l := by omega
    obtain ⟨b, off, rfl, _, hc⟩ := hz.at0 hl0
    go_enter Try.func194, Try.ntmps194
    go_wp2_with fail
    go_quiet ((go_at_call 127; exact quiet_left (sizeI_any _ _ _ _ (by omega))))
    go_wp2_with fail
    have hy1 := hy.drewN nq
    go_quiet ((go_at_call 197; exact quiet_add_left (binarySearchI_any _ _ _ hs _ _ (hy.drewN _) (by omega) hri)))
    go_wp2_with fail
    go_ret
    exact ⟨ret_bool (by unfold haltsB; rw [HL.out]; simp; omega), _, World.drewN_drewN _ _ _⟩

theorem RunAt.blk_ne {w : World} {g : Nat} {d : Int} {A : Option Addr} {n c : Nat} {B : Option Addr} {m k : Nat} {Q : Option Addr} {l r : Nat} {lo s n' c' : Nat} {X : Option Addr} {cs : List Value} (h : RunAt w g d A n c B m k Q l r) (h' : Own w lo 2 s X n' c' cs) : blk X ≠ some g := by
  intro hb
  rcases h'.2 with ⟨rfl, _⟩ | ⟨b, off, cur, rfl, _, hg, _⟩
  · simp [blk] at hb
  · simp [blk] at hb; subst hb
    unfold RunAt at h
    rw [hg] at h
    simp at h

theorem RunAt.grown {w w' : World} {g : Nat} {d : Int} {A : Option Addr} {n c : Nat} {B : Option Addr} {m k : Nat} {Q : Option Addr} {l r : Nat} {row : Option Nat} (h : RunAt w g d A n c B m k Q l r) (hg : w.grownBy w' row) (hne : row ≠ some g) : RunAt w' g d A n c B m k Q l r :=
  (hg.block g (Array.getElem?_eq_some_iff.1 h).1 (Ne.symm hne)).trans h
theorem RunAt.frozen {w : World} {g : Nat} {d : Int} {A : Option Addr} {n c : Nat} {B : Option Addr} {m k : Nat} {Q : Option Addr} {l r : Nat} (h : RunAt w g d A n c B m k Q l r) (i : Nat) : w.frozen? ⟨g, i, none⟩ = false := by
  unfold RunAt at h; simp [World.frozen?, h]
theorem RunAt.set3 {w : World} {g : Nat} {d : Int} {A : Option Addr} {n c : Nat} {B : Option Addr} {m k : Nat} {Q : Option Addr} {l r : Nat} (h : RunAt w g d A n c B m k Q l r) (Q' : Option Addr) (l' r' : Nat) : RunAt (w.setCell ⟨g, 3, none⟩ (.slice Q' l' r')) g d A n c B m k Q' l' r' := by
  have := heap_setCell_same w g 3 _ _ (.slice Q' l' r') h
  exact this

def StepPost (w0 : World) (g : Nat) (d : Int) (A : Option Addr) (n c : Nat) (B : Option Addr) (m k : Nat) (xs word : List Int) (e : Ending) (w' : World) : Prop :=
  ∃ Q r, e = .returned (.bool (decide ((xs ++ word).length ≤ 1000))) ∧ RunAt w' g d A n c B m k Q ((xs ++ word).drop d.toNat).length r ∧ Own w' w0.heap.size 2 1 Q ((xs ++ word).drop d.toNat).length r (ints ((xs ++ word).drop d.toNat)) ∧ Below w0.heap.size w0 w'

set_option maxHeartbeats 2000000 in
theorem tagStep_any (w0 : World) (g : Nat) (d : Int) (A : Option Addr) (n c : Nat) (ts : List Sl) (B : Option Addr) (m k : Nat) (Q : Option Addr) (l r x0 : Nat) (xs : List Int) (t : Sl) (w : World) (hx : SII w0 A n ts) (hb0 : Below w0.heap.size w0 w) (hg : w0.heap.size ≤ g)
    (hr : RunAt w g d A n c B m k Q l r) (hQ : Own w w0.heap.size 2 1 Q l r (ints xs)) (hl : l ≤ 1048576) (hd : 1 ≤ d) (hdl : d ≤ l) (h0 : Hid (xs.headD 0 = (x0 : Int))) (hT : Hid (ts[x0]? = some t)) (hx0 : x0 < n) (htl : t.xs.length ≤ 1048576) :
    Calls Try.prog 195 #[.pointer (some ⟨g, 0, none⟩)] w (StepPost w0 g d A n c B m k xs t.xs) := by
  obtain ⟨k0, k1, k2, k3⟩ := runAt_cell hr
  have hl0 : 0 < l := by omega
  obtain ⟨b, off, rfl, hbl, hc⟩ := SI.at0 (xs := xs) hQ.rd hl0
  rw [h0.out] at hc
  obtain ⟨t', b', off', hT', htm, rfl, hbl', hc', hrow⟩ := (hx.below hb0).pick hx0
  obtain rfl : t = t' := by have h1 := hT.out; have h2 := hT'.out; rw [h1] at h2; simpa using h2
  clear hT'
  have i1 : (0 : Int) ≤ (x0 : Int) := by omega
  have i2 : (x0 : Int) < (n : Int) := by omega
  have i3 : (0 : Int) < (l : Int) := by omega
  have hb1 : b' < w0.heap.size := by
    obtain ⟨_, b1, o1, _, _, he, h, _⟩ := hx.pick hx0
    simp only [Option.some.injEq, Addr.mk.injEq, and_true] at he
    omega
  have hbb' : b' ≠ b := by have := hQ.blk_ge b rfl; omega
  have gne := hr.blk_ne hQ
  have HG := Lib.hid gne
  clear gne
  have gz : g < w.heap.size := (Array.getElem?_eq_some_iff.1 hr).1
  go_enter Try.func195, Try.ntmps195
  go_upto_region 1 with fail
  go_cut [2] (fun s2 wx => s2 = .bool false ∧ ∃ A2 c2, RunAt wx g d (some ⟨b', off', none⟩) n c B m k A2 (l + t.xs.length) c2 ∧ Own wx w0.heap.size 2 1 A2 (l + t.xs.length) c2 (ints (xs ++ t.xs)) ∧ Below w0.heap.size w0 wx)
  case first =>
    go_region_law
      ((refine step_append_Own rfl (.tmp 8) (.tmp 21) rfl elI (lo := w0.heap.size) rfl (by exact hQ.drewN _) rfl (by exact hrow.drewN _) (ints_one t.xs) (by omega) (by simp only [maxLen]; omega) (by exact hb0.size) ?_; intro A2 c2 w2 ho2 hg2 hwh2
        have hr2 : RunAt w2 g d (some ⟨b', off', none⟩) n c B m k (some ⟨b, off, none⟩) l r := RunAt.grown (w := w.drewN 1) hr hg2 HG.out
        have e3 := (runAt_cell hr2).2.2.2
        have f3 := hr2.frozen 3))
    all_goals
      go_wp2_with fail
      go_meet
      refine ⟨rfl, A2, c2, hr2.set3 A2 (l + t.xs.length) c2, ?_, ?_⟩
      · rw [← ints_append]
        exact ho2.far (p := ⟨g, 3, none⟩) (hr2.blk_ne ho2) _
      · have hb2 : Below w0.heap.size w0 w2 := (hQ.drewN 1).below_of (below_drewN hb0 1) hg2 hb0.size
        exact hb2.setCell (p := ⟨g, 3, none⟩) hg _
  case rest =>
    obtain ⟨rfl, A2, c2, hr3, ho3, hb3⟩ := hcut
    obtain ⟨m0, m1, m2, m3⟩ := runAt_cell hr3
    have f3 := hr3.frozen 3
    clear k0 k1 k2 k3
    obtain ⟨dn, rfl⟩ := Int.eq_ofNat_of_zero_le (show 0 ≤ d by omega)
    have hdn : dn ≤ l + t.xs.length := by omega
    have hcap := ho3.le
    go_wp2_with fail
    go_region
    have ho4 := ho3.from_ hdn
    rw [ints_drop] at ho4
    generalize hA3 : (if c2 = dn then A2 else Option.map (fun x => x.add dn) A2) = A3 at *
    clear hA3
    have hr4 := hr3.set3 A3 (l + t.xs.length - dn) (c2 - dn)
    have ho5 := ho4.far (p := ⟨g, 3, none⟩) (hr3.blk_ne ho4) (.slice A3 (l + t.xs.length - dn) (c2 - dn))
    have hb5 := (hb3.setCell (p := ⟨g, 3, none⟩) hg (.slice A3 (l + t.xs.length - dn) (c2 - dn))).drew
    have HXL : Hid (xs.length = l) := by have := hQ.1; rw [length_ints] at this; show _ = _; omega
    have e1 : ((xs ++ t.xs).drop dn).length = l + t.xs.length - dn := by rw [List.length_drop, List.length_append, HXL.out]
    have E1 := Lib.hid e1
    clear e1
    go_wp2_with fail
    go_ret
    refine ⟨A3, c2 - dn, ret_bool ?_, ?_, ?_, hb5⟩
    · rw [List.length_append, HXL.out, decide_eq_decide]; omega
    · rw [Int.toNat_natCast, E1.out]; exact hr4
    · rw [Int.toNat_natCast, E1.out]; exact ho5

end Go.Proofs.Ytokglpdlhacnaaa

/-
  What StepTag returns, in plain words.
-/
namespace Go.Proofs.Ytokglpdlhacnaaa
open Go.RowKit

/-- What a step of a tag system comes to. -/
def stepTagF (d : Int) (words : List (List Int)) (halting xs : List Int) : List Int × Int :=
  if tagCodeF d words halting xs ≠ 0 then ([], tagCodeF d words halting xs)
  else if haltsB d halting xs then ([], 6)
  else if (xs ++ words.getD (xs.headD 0).toNat []).length ≤ 1000 then ((xs ++ words.getD (xs.headD 0).toNat []).drop d.toNat, 0)
  else ([], 5)

theorem tagCode_parts {d : Int} {words : List (List Int)} {hs xs : List Int} (h : tagCodeF d words hs xs = 0) :
    1 ≤ d ∧ d ≤ 4 ∧ hs.Pairwise (· < ·) ∧ xs.length ≤ 1000 ∧ (∀ x ∈ xs, 0 ≤ x ∧ x < words.length) ∧ 1 ≤ words.length ∧ words.length ≤ 200 ∧ (∀ v ∈ words, v.length ≤ 1000) := by
  unfold tagCodeF at h
  split at h
  · rename_i hv
    simp only [Bool.and_eq_true, validTagB, tagWordB, wordsB, allIn, List.all_eq_true, inB_iff, decide_eq_true_eq, risesB] at hv
    obtain ⟨⟨⟨⟨⟨h1, h2⟩, h3⟩, h4⟩, h5⟩, h6, h7⟩ := hv
    exact ⟨h1.1, h1.2, h4, h6, fun x hx => by have := h7 x hx; omega, by omega, by omega, fun v hv => (h3 v hv).1⟩
  · cases h
theorem tagCode_01 (d : Int) (words : List (List Int)) (hs xs : List Int) : tagCodeF d words hs xs = 0 ∨ tagCodeF d words hs xs = 1 := by
  unfold tagCodeF; split <;> simp
theorem stepTag_bad {d : Int} {words : List (List Int)} {hs xs : List Int} (h : tagCodeF d words hs xs = 1) : stepTagF d words hs xs = ([], 1) := by
  unfold stepTagF; rw [h]; simp
theorem stepTag_halts {d : Int} {words : List (List Int)} {hs xs : List Int} (h : tagCodeF d words hs xs = 0) (h1 : haltsB d hs xs = true) : stepTagF d words hs xs = ([], 6) := by
  unfold stepTagF; rw [h, h1]; simp
theorem stepTag_steps {d : Int} {words : List (List Int)} {hs xs word : List Int} (h : tagCodeF d words hs xs = 0) (h1 : haltsB d hs xs = false) (hw : words.getD (xs.headD 0).toNat [] = word) :
    stepTagF d words hs xs = if (xs ++ word).length ≤ 1000 then ((xs ++ word).drop d.toNat, 0) else ([], 5) := by
  unfold stepTagF; rw [h, h1, hw]; simp
theorem head_letter {xs : List Int} {n : Nat} (h0 : 0 < xs.length) (h : ∀ x ∈ xs, 0 ≤ x ∧ x < (n : Int)) : ∃ x0 : Nat, x0 < n ∧ xs.headD 0 = (x0 : Int) := by
  rcases xs with _ | ⟨x, r⟩
  · simp at h0
  · have := h x (by simp)
    exact ⟨x.toNat, by omega, by simp; omega⟩
theorem haltsB_false {d : Int} {hs xs : List Int} (h : haltsB d hs xs = false) : d ≤ xs.length := by
  unfold haltsB at h; simp at h; omega

end Go.Proofs.Ytokglpdlhacnaaa

/-
  Systems that make steps: runs, how they end. No program is in sight.
-/
namespace Go.Proofs.Ytokglpdlhacnaaa

/-- A system: whether it halts, the next state, whether there is room for the step. -/
structure Sys (σ : Type) where
  halt : σ → Bool
  next : σ → σ
  room : σ → Bool
section
variable {σ : Type} (s : Sys σ)
def Sys.it (c : σ) : Nat → σ
  | 0 => c
  | i + 1 => s.next (Sys.it c i)
def Sys.Alive (c : σ) (i : Nat) : Prop := ∀ j, j < i → s.halt (s.it c j) = false ∧ s.room (s.it c j) = true
def Sys.Ended (c : σ) (N i : Nat) : Prop := i ≤ N ∧ s.Alive c i ∧ (i = N ∨ s.halt (s.it c i) = true)
def Sys.Full (c : σ) (N i : Nat) : Prop := i < N ∧ s.Alive c i ∧ s.halt (s.it c i) = false ∧ s.room (s.it c i) = false
def Sys.run : Nat → σ → Option Nat
  | 0, _ => some 0
  | N + 1, c => if s.halt c then some 0 else if s.room c then (Sys.run N (s.next c)).map (· + 1) else none
end
section
variable {σ : Type} {s : Sys σ} {c : σ} {i N : Nat}
theorem Sys.Alive.zero (s : Sys σ) (c : σ) : s.Alive c 0 := fun j h => absurd h (Nat.not_lt_zero j)
theorem Sys.Alive.step (h : s.Alive c i) (h1 : s.halt (s.it c i) = false) (h2 : s.room (s.it c i) = true) : s.Alive c (i + 1) := fun j hj => by
  by_cases e : j = i
  · subst e; exact ⟨h1, h2⟩
  · exact h j (by omega)
theorem Sys.it_shift (s : Sys σ) (c : σ) (i : Nat) : s.it (s.next c) i = s.it c (i + 1) := by
  induction i with
  | zero => rfl
  | succ i ih => show s.next (s.it (s.next c) i) = s.next (s.it c (i + 1)); rw [ih]
theorem Sys.it_add (s : Sys σ) (c : σ) (a b : Nat) : s.it (s.it c a) b = s.it c (a + b) := by
  induction b with
  | zero => rfl
  | succ b ih => show s.next (s.it (s.it c a) b) = s.next (s.it c (a + b)); rw [ih]
theorem Sys.Alive.shift (h : s.Alive c (i + 1)) : s.Alive (s.next c) i := fun j hj => by
  rw [Sys.it_shift]; exact h (j + 1) (by omega)
theorem Sys.Alive.cons (h1 : s.halt c = false) (h2 : s.room c = true) (h : s.Alive (s.next c) i) : s.Alive c (i + 1) := fun j hj => by
  cases j with
  | zero => exact ⟨h1, h2⟩
  | succ j => have h3 := h j (by omega); rw [Sys.it_shift] at h3; exact h3
theorem Sys.run_ended : ∀ {N : Nat} {c : σ} {i : Nat}, s.Ended c N i → s.run N c = some i := by
  intro N
  induction N with
  | zero =>
    rintro c i ⟨h1, _, _⟩
    obtain rfl : i = 0 := by omega
    rfl
  | succ N ih =>
    rintro c i ⟨h1, h2, h3⟩
    cases i with
    | zero =>
      rcases h3 with h3 | h3
      · cases h3
      · have h4 : s.halt c = true := h3
        unfold Sys.run; rw [if_pos h4]
    | succ i =>
      have h4 : s.halt c = false ∧ s.room c = true := h2 0 (by omega)
      have h5 := ih (c := s.next c) (i := i) ⟨by omega, h2.shift, by
        rcases h3 with h3 | h3
        · left; omega
        · right; rw [Sys.it_shift]; exact h3⟩
      unfold Sys.run
      rw [if_neg (by simp [h4.1]), if_pos h4.2, h5]; rfl
theorem Sys.run_full : ∀ {N : Nat} {c : σ} {i : Nat}, s.Full c N i → s.run N c = none := by
  intro N
  induction N with
  | zero => rintro c i ⟨h1, _⟩; omega
  | succ N ih =>
    rintro c i ⟨h1, h2, h3, h4⟩
    cases i with
    | zero =>
      have h5 : s.halt c = false := h3
      have h6 : s.room c = false := h4
      unfold Sys.run; rw [if_neg (by simp [h5]), if_neg (by simp [h6])]
    | succ i =>
      have h5 : s.halt c = false ∧ s.room c = true := h2 0 (by omega)
      have h6 := ih (c := s.next c) (i := i) ⟨by omega, h2.shift, by rw [Sys.it_shift]; exact h3, by rw [Sys.it_shift]; exact h4⟩
      unfold Sys.run
      rw [if_neg (by simp [h5.1]), if_pos h5.2, h6]; rfl
theorem Sys.run_alive : ∀ {N : Nat} {c : σ} {i : Nat}, s.run N c = some i → s.Alive c i := by
  intro N
  induction N with
  | zero => intro c i h; unfold Sys.run at h; cases h; exact Sys.Alive.zero _ _
  | succ N ih =>
    intro c i h
    unfold Sys.run at h
    split at h
    · cases h; exact Sys.Alive.zero _ _
    · rename_i h1
      split at h
      · rename_i h2
        cases h3 : s.run N (s.next c) with
        | none => rw [h3] at h; cases h
        | some j =>
          rw [h3] at h
          obtain rfl : j + 1 = i := by simpa using h
          exact (ih h3).cons (by simpa using h1) h2
      · cases h
end
end Go.Proofs.Ytokglpdlhacnaaa

/-
  A tag system as a system that makes steps. No program is in sight.
-/
namespace Go.Proofs.Ytokglpdlhacnaaa
open Go.RowKit

def tagWordOf (words : List (List Int)) (xs : List Int) : List Int := words.getD (xs.headD 0).toNat []
def tagSys (d : Int) (words : List (List Int)) (hs : List Int) : Sys (List Int) := ⟨haltsB d hs, fun xs => (xs ++ tagWordOf words xs).drop d.toNat, fun xs => decide ((xs ++ tagWordOf words xs).length ≤ 1000)⟩
theorem tagCode_zero {d : Int} {words : List (List Int)} {hs xs : List Int} : tagCodeF d words hs xs = 0 ↔ validTagB d words hs = true ∧ tagWordB xs words.length = true := by
  unfold tagCodeF
  split
  · rename_i h; simp only [Bool.and_eq_true] at h; simp [h]
  · rename_i h; simp only [Bool.and_eq_true] at h; constructor
    · intro h1; cases h1
    · intro h1; exact absurd h1 h
theorem tagNext_good {d : Int} {words : List (List Int)} {hs xs : List Int} (h : tagCodeF d words hs xs = 0) (hr : (tagSys d words hs).room xs = true) : tagCodeF d words hs ((tagSys d words hs).next xs) = 0 := by
  rw [tagCode_zero] at h ⊢
  obtain ⟨h1, h2⟩ := h
  refine ⟨h1, ?_⟩
  have hl : (xs ++ tagWordOf words xs).length ≤ 1000 := by simpa [tagSys] using hr
  show tagWordB ((xs ++ tagWordOf words xs).drop d.toNat) words.length = true
  unfold tagWordB allIn at h2 ⊢
  simp only [Bool.and_eq_true, decide_eq_true_eq, List.all_eq_true] at h2 ⊢
  refine ⟨by rw [List.length_drop]; omega, fun x hx => ?_⟩
  rcases List.mem_append.1 (List.mem_of_mem_drop hx) with hx | hx
  · exact h2.2 x hx
  · unfold tagWordOf at hx
    have hw : ∀ v ∈ words, tagWordB v words.length = true := by
      unfold validTagB wordsB at h1
      simp only [Bool.and_eq_true, List.all_eq_true] at h1
      exact h1.1.1.2
    by_cases hlt : (xs.headD 0).toNat < words.length
    · rw [List.getD_eq_getElem?_getD, List.getElem?_eq_getElem hlt] at hx
      have h3 := hw _ (List.getElem_mem hlt)
      unfold tagWordB allIn at h3
      simp only [Bool.and_eq_true, List.all_eq_true] at h3
      exact h3.2 x hx
    · rw [List.getD_eq_getElem?_getD, List.getElem?_eq_none (by omega)] at hx
      simp at hx
theorem tagAlive_good {d : Int} {words : List (List Int)} {hs xs : List Int} (h : tagCodeF d words hs xs = 0) : ∀ {i : Nat}, (tagSys d words hs).Alive xs i → tagCodeF d words hs ((tagSys d words hs).it xs i) = 0 := by
  intro i
  induction i with
  | zero => intro _; exact h
  | succ i ih => intro ha; exact tagNext_good (ih (fun j hj => ha j (by omega))) (ha i (by omega)).2
/-- What RunTag returns. -/
def runTagF (d : Int) (words : List (List Int)) (hs xs : List Int) (b : Int) : List Int × Int × Bool × Int :=
  if tagCodeF d words hs xs = 0 then
    if inB b 1 20000 then
      match (tagSys d words hs).run b.toNat xs with
      | some i => ((tagSys d words hs).it xs i, (i : Int), haltsB d hs ((tagSys d words hs).it xs i), 0)
      | none => ([], 0, false, 5)
    else ([], 0, false, 2)
  else ([], 0, false, 1)
end Go.Proofs.Ytokglpdlhacnaaa

/-
  A cyclic tag system as a system that makes steps. No program is in sight.
-/
namespace Go.Proofs.Ytokglpdlhacnaaa
open Go.RowKit

/-- A turn: the place in the words, the queue. -/
structure Tu where
  at_ : Int
  word : List Int
def validCyclB (words : List (List Int)) : Bool := inB words.length 1 400 && wordsB words 2
def validTurnB (words : List (List Int)) (x : Tu) : Bool := validCyclB words && inB x.at_ 0 ((words.length : Int) - 1) && tagWordB x.word 2
def cycWord (words : List (List Int)) (x : Tu) : List Int := if x.word.headD 0 = 1 then words.getD x.at_.toNat [] else []
def cycNext (words : List (List Int)) (x : Tu) : Tu := ⟨(x.at_ + 1).tmod words.length, x.word.tail ++ cycWord words x⟩
/-- Cyclic tag systems halt where the queue is empty. -/
def cycSys (words : List (List Int)) : Sys Tu := ⟨fun x => decide (x.word.length = 0), cycNext words, fun x => decide ((cycNext words x).word.length ≤ 1000)⟩

theorem validTurn_parts {words : List (List Int)} {x : Tu} (h : validTurnB words x = true) : 1 ≤ words.length ∧ words.length ≤ 400 ∧ (∀ v ∈ words, v.length ≤ 1000) ∧ 0 ≤ x.at_ ∧ x.at_ < words.length ∧ x.word.length ≤ 1000 ∧ (∀ y ∈ x.word, 0 ≤ y ∧ y < 2) := by
  unfold validTurnB validCyclB wordsB tagWordB allIn at h
  simp only [Bool.and_eq_true, List.all_eq_true, inB_iff, decide_eq_true_eq] at h
  obtain ⟨⟨⟨h1, h2⟩, h3⟩, h4, h5⟩ := h
  exact ⟨by omega, by omega, fun v hv => (h2 v hv).1, h3.1, by omega, h4, fun y hy => by have := h5 y hy; omega⟩
theorem cycNext_good {words : List (List Int)} {x : Tu} (h : validTurnB words x = true) (hr : (cycSys words).room x = true) : validTurnB words (cycNext words x) = true := by
  obtain ⟨h1, h2, h3, h4, h5, h6, h7⟩ := validTurn_parts h
  have hl : (cycNext words x).word.length ≤ 1000 := by simpa [cycSys] using hr
  unfold validTurnB at h ⊢
  simp only [Bool.and_eq_true] at h ⊢
  obtain ⟨⟨hc, ha⟩, hw⟩ := h
  refine ⟨⟨hc, ?_⟩, ?_⟩
  · rw [inB_iff]
    have h8 := Int.tmod_nonneg (words.length : Int) (show 0 ≤ x.at_ + 1 by omega)
    have h9 := Int.tmod_lt_of_pos (x.at_ + 1) (show (0 : Int) < words.length by omega)
    show 0 ≤ (x.at_ + 1).tmod words.length ∧ (x.at_ + 1).tmod words.length ≤ _
    omega
  · unfold tagWordB allIn at hw ⊢
    simp only [Bool.and_eq_true, decide_eq_true_eq, List.all_eq_true] at hw ⊢
    refine ⟨hl, fun y hy => ?_⟩
    rcases List.mem_append.1 hy with hy | hy
    · exact hw.2 y (List.mem_of_mem_tail hy)
    · unfold cycWord at hy
      split at hy
      · unfold validCyclB wordsB at hc
        simp only [Bool.and_eq_true, List.all_eq_true] at hc
        have hlt : x.at_.toNat < words.length := by omega
        rw [List.getD_eq_getElem?_getD, List.getElem?_eq_getElem hlt] at hy
        have h10 := hc.2 _ (List.getElem_mem hlt)
        unfold tagWordB allIn at h10
        simp only [Bool.and_eq_true, List.all_eq_true] at h10
        exact h10.2 y hy
      · simp at hy
theorem cycAlive_good {words : List (List Int)} {x : Tu} (h : validTurnB words x = true) : ∀ {i : Nat}, (cycSys words).Alive x i → validTurnB words ((cycSys words).it x i) = true := by
  intro i
  induction i with
  | zero => intro _; exact h
  | succ i ih => intro ha; exact cycNext_good (ih (fun j hj => ha j (by omega))) (ha i (by omega)).2
/-- What RunCyclic returns. -/
def runCycF (words : List (List Int)) (x : Tu) (b : Int) : Tu × Int × Bool × Int :=
  if validTurnB words x then
    if inB b 1 20000 then
      match (cycSys words).run b.toNat x with
      | some i => ((cycSys words).it x i, (i : Int), decide (((cycSys words).it x i).word.length = 0), 0)
      | none => (⟨0, []⟩, 0, false, 5)
    else (⟨0, []⟩, 0, false, 2)
  else (⟨0, []⟩, 0, false, 1)
end Go.Proofs.Ytokglpdlhacnaaa
