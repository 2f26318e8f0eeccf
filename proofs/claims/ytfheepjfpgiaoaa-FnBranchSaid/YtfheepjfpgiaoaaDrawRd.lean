/-
  The reference reads expressions and commands from a text that shows them: l22ReadExpr, l22ReadAll.
-/
import Derived.Test.YtfheepjfpgiaoaaDrawQg
import Derived.PlainAid
namespace Go.Proofs.Ytfheepjfpgiaoaa
open Go.RowKit Go.PlainAid

/-- The bytes from a place on. -/
def At (s : ByteArray) (k : Nat) (l : List Int) : Prop := k + l.length ≤ s.size ∧ ∀ j (h : j < l.length), bt s (k + j) = l[j]
theorem At.head {s : ByteArray} {k : Nat} {x : Int} {l : List Int} (h : At s k (x :: l)) : k < s.size ∧ bt s k = x ∧ At s (k + 1) l := by
  obtain ⟨h1, h2⟩ := h
  rw [List.length_cons] at h1
  refine ⟨by omega, h2 0 (by simp), by omega, fun j hj => ?_⟩
  have := h2 (j + 1) (by simpa using hj)
  rw [show k + 1 + j = k + (j + 1) by omega, this]; rfl
theorem At.app {s : ByteArray} : ∀ {l m : List Int} {k : Nat}, At s k (l ++ m) → At s k l ∧ At s (k + l.length) m
  | [], m, k, h => ⟨⟨by have := h.1; simp at this ⊢; omega, fun j hj => absurd hj (by simp)⟩, h⟩
  | x :: l, m, k, h => by
    obtain ⟨h1, h2, h3⟩ := At.head (l := l ++ m) h
    obtain ⟨h4, h5⟩ := At.app h3
    refine ⟨⟨by have := h4.1; rw [List.length_cons]; omega, fun j hj => ?_⟩, by rw [List.length_cons, show k + (l.length + 1) = k + 1 + l.length by omega]; exact h5⟩
    cases j with
    | zero => exact h2
    | succ j =>
      have := h4.2 j (by simpa using hj)
      rw [show k + (j + 1) = k + 1 + j by omega, this]; rfl
/-- The text of an expression. -/
def Ex.txt : Ex → List Int
  | .nil => [110]
  | .var v => [48 + (v : Int)]
  | .cons a b => 40 :: (a.txt ++ (46 :: (b.txt ++ [41])))
  | .hd a => 104 :: a.txt
  | .tl a => 116 :: a.txt
  | .same a b => 40 :: (a.txt ++ (63 :: (b.txt ++ [41])))
def Ex.dep : Ex → Nat
  | .nil => 1
  | .var _ => 1
  | .cons a b => 1 + max a.dep b.dep
  | .hd a => 1 + a.dep
  | .tl a => 1 + a.dep
  | .same a b => 1 + max a.dep b.dep
/-- Small: variables are digits, and there are not many elements. -/
def ReadE (_s : ByteArray) (k : Nat) (ex : Ex) (w : World) (e : Ending) (w' : World) : Prop :=
  ∃ A c, e = .returned (.tuple #[.slice A ex.len c, .int .i64 ((k + ex.txt.length : Nat) : Int), .bool true]) ∧ Own w' w.heap.size 118 2 A ex.len c (cells2 ex.enc) ∧ Below w.heap.size w w'
set_option maxRecDepth 100000 in
theorem digit_any (x : Int) (y : Bool) (hy : y = (decide (48 ≤ x) && decide (x ≤ 57))) (w : World) : Calls Try.prog 257 #[.int .u8 x] w fun e w' => e = .returned (.bool y) ∧ w = w' := by
  by_cases h1 : 48 ≤ x
  · by_cases h2 : x ≤ 57
    · have : y = true := by rw [hy]; simp [h1, h2]
      subst this
      clear hy
      go_enter Try.func257, Try.ntmps257
      go_wp2_with fail
      go_ret
      exact ⟨by simp, rfl⟩
    · have : y = false := by rw [hy]; simp [h2]
      subst this
      clear hy
      go_enter Try.func257, Try.ntmps257
      go_wp2_with fail
      go_ret
      exact ⟨by simp, rfl⟩
  · have : y = false := by rw [hy]; simp [h1]
    subst this
    clear hy
    go_enter Try.func257, Try.ntmps257
    go_wp2_with fail
    go_ret
    exact ⟨by simp, rfl⟩
theorem lit1_own (w : World) (a b : Int) (lo : Nat) (h : lo ≤ w.heap.size) : Own (w.alloc (.cells #[.int .i64 a, .int .i64 b] 118)) lo 118 2 (some ⟨w.heap.size, 0, none⟩) 1 1 (cells2 [⟨a, b⟩]) := Own.lit w #[.int .i64 a, .int .i64 b] _ 1 2 lo rfl (by simp [maxLen]) h
set_option maxRecDepth 100000 in
set_option maxHeartbeats 4000000 in
theorem readExpr_any (s : ByteArray) (hs : s.size ≤ 1000) : ∀ (ex : Ex) (k d : Nat) (w : World), ex.low → ex.len ≤ 1000 → At s k ex.txt → ex.dep ≤ d → d ≤ 1000 →
    Calls Try.prog 229 #[.string s, .int .i64 (k : Int), .int .i64 (d : Int)] w (ReadE s k ex w) := by
  intro ex
  have hbt := get_bt s
  induction ex with
  | nil =>
    intro k d w hlo hlen hat hd hd2
    obtain ⟨h1, h2, _⟩ := hat.head
    have i1 : ¬ ((s.size : Int) ≤ (k : Int)) := by omega
    have i2 : ¬ ((d : Int) = 0) := by have : 1 ≤ d := hd; omega
    have i3 : (0 : Int) ≤ (k : Int) := by omega
    have i4 : (k : Int) < (s.size : Int) := by omega
    have i5 : IntKind.i64.wrap ((k : Int) + 1) = ((k + 1 : Nat) : Int) := by rw [IntWalk.i64_in _ (by omega)]; omega
    have HA : Hid (ReadE s k .nil w (.returned (.tuple #[.slice (some ⟨w.heap.size, 0, none⟩) 1 1, .int .i64 ((k + 1 : Nat) : Int), .bool true])) (w.alloc (.cells #[.int .i64 0, .int .i64 0] 118))) := Lib.hid ⟨_, 1, rfl, lit1_own w 0 0 _ (Nat.le_refl _), (Below.refl _ _).alloc (Nat.le_refl _) _⟩
    clear hat hd hlo hlen h1
    go_enter Try.func229, Try.ntmps229
    go_wp2_with (go_at_call 257; refine (digit_any 110 false (by decide) _).mono ?_; rintro e w' ⟨rfl, rfl⟩)
    exact bodyPost_ret (v := .tuple #[.slice (some ⟨w.heap.size, 0, none⟩) 1 1, .int .i64 ((k + 1 : Nat) : Int), .bool true]) (by simp [results, Try.results229, go_sem]) rfl HA.out
  | var v =>
    intro k d w hlo hlen hat hd hd2
    obtain ⟨h1, h2, _⟩ := hat.head
    have hv : v < 4 := hlo
    have i1 : ¬ ((s.size : Int) ≤ (k : Int)) := by omega
    have i2 : ¬ ((d : Int) = 0) := by have : 1 ≤ d := hd; omega
    have i3 : (0 : Int) ≤ (k : Int) := by omega
    have i4 : (k : Int) < (s.size : Int) := by omega
    have i5 : IntKind.i64.wrap ((k : Int) + 1) = ((k + 1 : Nat) : Int) := by rw [IntWalk.i64_in _ (by omega)]; omega
    have i6 : IntKind.u8.wrap (48 + (v : Int) - 48) = (v : Int) := by rw [IntKind.wrap_u8]; omega
    have i7 : IntKind.i64.wrap (v : Int) = (v : Int) := IntWalk.i64_in _ (by omega)
    have i8 : IntKind.u8.wrap (48 + (v : Int)) = 48 + (v : Int) := by rw [IntKind.wrap_u8]; omega
    have HA : Hid (ReadE s k (.var v) w (.returned (.tuple #[.slice (some ⟨w.heap.size, 0, none⟩) 1 1, .int .i64 ((k + 1 : Nat) : Int), .bool true])) (w.alloc (.cells #[.int .i64 1, .int .i64 (v : Int)] 118))) := Lib.hid ⟨_, 1, rfl, lit1_own w 1 v _ (Nat.le_refl _), (Below.refl _ _).alloc (Nat.le_refl _) _⟩
    have HDG : Hid (∀ w, Calls Try.prog 257 #[.int .u8 (48 + (v : Int))] w fun e w' => e = .returned (.bool true) ∧ w = w') := Lib.hid (fun w => digit_any (48 + (v : Int)) true (by rw [decide_eq_true (by omega), decide_eq_true (by omega)]; rfl) w)
    clear hat hd hlo hlen h1
    go_enter Try.func229, Try.ntmps229
    go_wp2_with (go_at_call 257; refine (HDG.out _).mono ?_; rintro e w' ⟨rfl, rfl⟩)
    exact bodyPost_ret (v := .tuple #[.slice (some ⟨w.heap.size, 0, none⟩) 1 1, .int .i64 ((k + 1 : Nat) : Int), .bool true]) (by simp [results, Try.results229, go_sem]) rfl HA.out
  | cons a b iha ihb =>
    intro k d w hlo hlen hat hd hd2
    obtain ⟨h1, h2, hat2⟩ := hat.head
    obtain ⟨hata, hat3⟩ := hat2.app
    obtain ⟨h3, h4, hat4⟩ := hat3.head
    obtain ⟨hatb, hat5⟩ := hat4.app
    obtain ⟨h5, h6, _⟩ := hat5.head
    have hda : a.dep ≤ d - 1 := by have : 1 + max a.dep b.dep ≤ d := hd; omega
    have hdb : b.dep ≤ d - 1 := by have : 1 + max a.dep b.dep ≤ d := hd; omega
    have hd0 : 1 ≤ d := by have : 1 + max a.dep b.dep ≤ d := hd; omega
    have hln : 1 + a.len + b.len ≤ 1000 := hlen
    have i1 : ¬ ((s.size : Int) ≤ (k : Int)) := by omega
    have i2 : ¬ ((d : Int) = 0) := by omega
    have i3 : (0 : Int) ≤ (k : Int) := by omega
    have i4 : (k : Int) < (s.size : Int) := by omega
    obtain ⟨k1, hk1⟩ : ∃ k1, k + 1 = k1 := ⟨_, rfl⟩
    rw [hk1] at hata hat3 h3 h4 hat4 hatb h5 h6 hat5
    obtain ⟨d1, hd1⟩ : ∃ d1, d - 1 = d1 := ⟨_, rfl⟩
    rw [hd1] at hda hdb
    have i5 : IntKind.i64.wrap ((k : Int) + 1) = (k1 : Int) := by rw [IntWalk.i64_in _ (by omega)]; omega
    have i6 : IntKind.i64.wrap ((d : Int) - 1) = (d1 : Int) := by rw [IntWalk.i64_in _ (by omega)]; omega
    have HI := Lib.hid (iha k1 d1 w hlo.1 (by omega) hata hda (by omega))
    unfold ReadE at HI
    obtain ⟨M, hM⟩ : ∃ M, k1 + a.txt.length = M := ⟨_, rfl⟩
    rw [hM] at HI h3 h4 hatb h5 h6
    obtain ⟨M1, hM1⟩ : ∃ M1, M + 1 = M1 := ⟨_, rfl⟩
    rw [hM1] at hatb h5 h6
    have HJ : Hid (∀ w, Calls Try.prog 229 #[.string s, .int .i64 (M1 : Int), .int .i64 (d1 : Int)] w (ReadE s M1 b w)) := Lib.hid (fun w => ihb M1 d1 w hlo.2 (by omega) hatb hdb (by omega))
    unfold ReadE at HJ
    obtain ⟨L, hL⟩ : ∃ L, M1 + b.txt.length = L := ⟨_, rfl⟩
    rw [hL] at HJ h5 h6
    obtain ⟨L1, hL1⟩ : ∃ L1, L + 1 = L1 := ⟨_, rfl⟩
    have HL : Hid (k + (Ex.cons a b).txt.length = L1) := Lib.hid (by
      have : (Ex.cons a b).txt.length = a.txt.length + (b.txt.length + 1 + 1) + 1 := by simp [Ex.txt]
      omega)
    have j1 : ¬ ((s.size : Int) ≤ (M : Int)) := by omega
    have j3 : (0 : Int) ≤ (M : Int) := by omega
    have j4 : (M : Int) < (s.size : Int) := by omega
    have j5 : IntKind.i64.wrap ((M : Int) + 1) = (M1 : Int) := by rw [IntWalk.i64_in _ (by omega)]; omega
    have l1 : ¬ ((s.size : Int) ≤ (L : Int)) := by omega
    have l5 : IntKind.i64.wrap ((L : Int) + 1) = (L1 : Int) := by rw [IntWalk.i64_in _ (by omega)]; omega
    clear hat hat2 hat3 hat4 hat5 hata hatb hd hlo hlen h1 h3 h5 h6 iha ihb hk1 hd1 hM hM1 hL hL1 hda hdb
    go_enter Try.func229, Try.ntmps229
    go_wp2_with (go_at_call 257; refine (digit_any 40 false (by decide) _).mono ?_; rintro e w' ⟨rfl, rfl⟩)
    refine HI.out.mono ?_
    rintro e w1 ⟨A, c, rfl, o1, z1⟩
    have HO1 := Lib.hid o1.rd
    have HZ1 := Lib.hid z1
    clear o1 z1
    go_wp2_with fail
    refine (HJ.out w1).mono ?_
    rintro e w2 ⟨B, bc, rfl, o2, z2⟩
    have hz2 : w.heap.size ≤ w2.heap.size := Nat.le_trans HZ1.out.size z2.size
    have HA2 := Lib.hid (Rd.alloc (HO1.out.below z2) (.cells #[.int .i64 2, .int .i64 0] 118))
    have HB2 := Lib.hid (Rd.alloc o2.rd (.cells #[.int .i64 2, .int .i64 0] 118))
    have HO := Lib.hid ((lit1_own w2 2 0 w2.heap.size (Nat.le_refl _)))
    have HZ2 := Lib.hid (HZ1.out.trans (z2.mono HZ1.out.size))
    have HBL : Hid (∀ g, blk B = some g → g < w2.heap.size) := Lib.hid (fun g hg => o2.blk_lt g hg)
    clear o2 z2 HO1 HZ1
    go_upto_region 26 with (at_builtin; refine wpList_append_Own rfl (.tmp 121) (.tmp 122) rfl elEx (lo := w2.heap.size) rfl HO.out rfl HA2.out (cells2_one _) (by omega) (by simp only [maxLen]; omega) (by simp) ?_; intro A5 c5 w5 o5 hg5 _)
    have z25 : Below w2.heap.size w2 w5 := HO.out.below_of ((Below.refl _ _).alloc (Nat.le_refl _) _) hg5 (by simp)
    have HB5 : Hid (Rd w5 2 B b.len (cells2 b.enc)) := Lib.hid (HB2.out.grown hg5 (fun g hg e => by
      have h1 := HO.out.blk_ge g hg
      have h2 := HBL.out g e
      omega))
    have HO5 := Lib.hid o5
    have HZ5 := Lib.hid z25
    have hz5 := z25.size
    clear o5 hg5 z25
    go_wp2_with (at_builtin; refine wpList_append_Own rfl (.tmp 124) (.tmp 125) rfl elEx (lo := w2.heap.size) rfl HO5.out rfl HB5.out (cells2_one _) (by omega) (by simp only [maxLen]; omega) hz5 ?_; intro A6 c6 w6 o6 hg6 _; have HO6 := Lib.hid o6; have HG6 := Lib.hid hg6)
    refine bodyPost_ret (v := .tuple #[.slice A6 (1 + a.len + b.len) c6, .int .i64 (L1 : Int), .bool true]) (by simp [results, Try.results229, go_sem]) rfl ⟨A6, c6, by rw [HL.out]; rfl, ?_, ?_⟩
    · have h := HO6.out
      rw [cells2_append, cells2_append] at h
      exact h.mono hz2
    · exact HZ2.out.trans ((HO5.out.below_of HZ5.out HG6.out hz5).mono hz2)
  | hd a ih =>
    intro k d w hlo hlen hat hd hd2
    obtain ⟨h1, h2, hat2⟩ := hat.head
    have hdl : 1 + a.dep ≤ d := hd
    have hln : 1 + a.len ≤ 1000 := hlen
    have hal := hat2.1
    have i1 : ¬ ((s.size : Int) ≤ (k : Int)) := by omega
    have i2 : ¬ ((d : Int) = 0) := by omega
    have i3 : (0 : Int) ≤ (k : Int) := by omega
    have i4 : (k : Int) < (s.size : Int) := by omega
    obtain ⟨k1, hk1⟩ : ∃ k1, k + 1 = k1 := ⟨_, rfl⟩
    obtain ⟨d1, hd1⟩ : ∃ d1, d - 1 = d1 := ⟨_, rfl⟩
    have i5 : IntKind.i64.wrap ((k : Int) + 1) = (k1 : Int) := by rw [IntWalk.i64_in _ (by omega)]; omega
    have i6 : IntKind.i64.wrap ((d : Int) - 1) = (d1 : Int) := by rw [IntWalk.i64_in _ (by omega)]; omega
    have HI := Lib.hid (ih k1 d1 w hlo (by omega) (by rw [← hk1]; exact hat2) (by omega) (by omega))
    obtain ⟨M, hM⟩ : ∃ M, k1 + a.txt.length = M := ⟨_, rfl⟩
    have HM : Hid (k + (Ex.hd a).txt.length = M) := Lib.hid (by show k + (a.txt.length + 1) = M; omega)
    unfold ReadE at HI
    rw [hM] at HI
    clear hat hat2 hd hlo hlen h1 ih hk1 hd1 hM hal hdl
    go_enter Try.func229, Try.ntmps229
    go_wp2_with (go_at_call 257; refine (digit_any 104 false (by decide) _).mono ?_; rintro e w' ⟨rfl, rfl⟩)
    refine HI.out.mono ?_
    rintro e w1 ⟨A, c, rfl, o1, z1⟩
    have HO := Lib.hid ((lit1_own w1 3 0 w.heap.size z1.size))
    have HR := Lib.hid (Rd.alloc o1.rd (.cells #[.int .i64 3, .int .i64 0] 118))
    have hz1 := z1.size
    have HZ := Lib.hid z1
    clear o1 z1
    go_wp2_with (at_builtin; refine wpList_append_Own rfl (.tmp 69) (.tmp 70) rfl elEx (lo := w.heap.size) rfl HO.out rfl HR.out (cells2_one _) (by omega) (by simp only [maxLen]; omega) (by simp; omega) ?_; intro A5 c5 w5 o5 hg5 _; have HO5 := Lib.hid o5; have HG5 := Lib.hid hg5)
    refine bodyPost_ret (v := .tuple #[.slice A5 (1 + a.len) c5, .int .i64 (M : Int), .bool true]) (by simp [results, Try.results229, go_sem]) rfl ⟨A5, c5, by rw [HM.out]; rfl, ?_, HO.out.below_of (HZ.out.alloc (by omega) _) HG5.out (by simp; omega)⟩
    have h := HO5.out
    rw [cells2_append] at h
    exact h
  | tl a ih =>
    intro k d w hlo hlen hat hd hd2
    obtain ⟨h1, h2, hat2⟩ := hat.head
    have hdl : 1 + a.dep ≤ d := hd
    have hln : 1 + a.len ≤ 1000 := hlen
    have hal := hat2.1
    have i1 : ¬ ((s.size : Int) ≤ (k : Int)) := by omega
    have i2 : ¬ ((d : Int) = 0) := by omega
    have i3 : (0 : Int) ≤ (k : Int) := by omega
    have i4 : (k : Int) < (s.size : Int) := by omega
    obtain ⟨k1, hk1⟩ : ∃ k1, k + 1 = k1 := ⟨_, rfl⟩
    obtain ⟨d1, hd1⟩ : ∃ d1, d - 1 = d1 := ⟨_, rfl⟩
    have i5 : IntKind.i64.wrap ((k : Int) + 1) = (k1 : Int) := by rw [IntWalk.i64_in _ (by omega)]; omega
    have i6 : IntKind.i64.wrap ((d : Int) - 1) = (d1 : Int) := by rw [IntWalk.i64_in _ (by omega)]; omega
    have HI := Lib.hid (ih k1 d1 w hlo (by omega) (by rw [← hk1]; exact hat2) (by omega) (by omega))
    obtain ⟨M, hM⟩ : ∃ M, k1 + a.txt.length = M := ⟨_, rfl⟩
    have HM : Hid (k + (Ex.tl a).txt.length = M) := Lib.hid (by show k + (a.txt.length + 1) = M; omega)
    unfold ReadE at HI
    rw [hM] at HI
    clear hat hat2 hd hlo hlen h1 ih hk1 hd1 hM hal hdl
    go_enter Try.func229, Try.ntmps229
    go_wp2_with (go_at_call 257; refine (digit_any 116 false (by decide) _).mono ?_; rintro e w' ⟨rfl, rfl⟩)
    refine HI.out.mono ?_
    rintro e w1 ⟨A, c, rfl, o1, z1⟩
    have HO := Lib.hid ((lit1_own w1 4 0 w.heap.size z1.size))
    have HR := Lib.hid (Rd.alloc o1.rd (.cells #[.int .i64 4, .int .i64 0] 118))
    have hz1 := z1.size
    have HZ := Lib.hid z1
    clear o1 z1
    go_wp2_with (at_builtin; refine wpList_append_Own rfl (.tmp 69) (.tmp 70) rfl elEx (lo := w.heap.size) rfl HO.out rfl HR.out (cells2_one _) (by omega) (by simp only [maxLen]; omega) (by simp; omega) ?_; intro A5 c5 w5 o5 hg5 _; have HO5 := Lib.hid o5; have HG5 := Lib.hid hg5)
    refine bodyPost_ret (v := .tuple #[.slice A5 (1 + a.len) c5, .int .i64 (M : Int), .bool true]) (by simp [results, Try.results229, go_sem]) rfl ⟨A5, c5, by rw [HM.out]; rfl, ?_, HO.out.below_of (HZ.out.alloc (by omega) _) HG5.out (by simp; omega)⟩
    have h := HO5.out
    rw [cells2_append] at h
    exact h
  | same a b iha ihb =>
    intro k d w hlo hlen hat hd hd2
    obtain ⟨h1, h2, hat2⟩ := hat.head
    obtain ⟨hata, hat3⟩ := hat2.app
    obtain ⟨h3, h4, hat4⟩ := hat3.head
    obtain ⟨hatb, hat5⟩ := hat4.app
    obtain ⟨h5, h6, _⟩ := hat5.head
    have hda : a.dep ≤ d - 1 := by have : 1 + max a.dep b.dep ≤ d := hd; omega
    have hdb : b.dep ≤ d - 1 := by have : 1 + max a.dep b.dep ≤ d := hd; omega
    have hd0 : 1 ≤ d := by have : 1 + max a.dep b.dep ≤ d := hd; omega
    have hln : 1 + a.len + b.len ≤ 1000 := hlen
    have i1 : ¬ ((s.size : Int) ≤ (k : Int)) := by omega
    have i2 : ¬ ((d : Int) = 0) := by omega
    have i3 : (0 : Int) ≤ (k : Int) := by omega
    have i4 : (k : Int) < (s.size : Int) := by omega
    obtain ⟨k1, hk1⟩ : ∃ k1, k + 1 = k1 := ⟨_, rfl⟩
    rw [hk1] at hata hat3 h3 h4 hat4 hatb h5 h6 hat5
    obtain ⟨d1, hd1⟩ : ∃ d1, d - 1 = d1 := ⟨_, rfl⟩
    rw [hd1] at hda hdb
    have i5 : IntKind.i64.wrap ((k : Int) + 1) = (k1 : Int) := by rw [IntWalk.i64_in _ (by omega)]; omega
    have i6 : IntKind.i64.wrap ((d : Int) - 1) = (d1 : Int) := by rw [IntWalk.i64_in _ (by omega)]; omega
    have HI := Lib.hid (iha k1 d1 w hlo.1 (by omega) hata hda (by omega))
    unfold ReadE at HI
    obtain ⟨M, hM⟩ : ∃ M, k1 + a.txt.length = M := ⟨_, rfl⟩
    rw [hM] at HI h3 h4 hatb h5 h6
    obtain ⟨M1, hM1⟩ : ∃ M1, M + 1 = M1 := ⟨_, rfl⟩
    rw [hM1] at hatb h5 h6
    have HJ : Hid (∀ w, Calls Try.prog 229 #[.string s, .int .i64 (M1 : Int), .int .i64 (d1 : Int)] w (ReadE s M1 b w)) := Lib.hid (fun w => ihb M1 d1 w hlo.2 (by omega) hatb hdb (by omega))
    unfold ReadE at HJ
    obtain ⟨L, hL⟩ : ∃ L, M1 + b.txt.length = L := ⟨_, rfl⟩
    rw [hL] at HJ h5 h6
    obtain ⟨L1, hL1⟩ : ∃ L1, L + 1 = L1 := ⟨_, rfl⟩
    have HL : Hid (k + (Ex.same a b).txt.length = L1) := Lib.hid (by
      have : (Ex.same a b).txt.length = a.txt.length + (b.txt.length + 1 + 1) + 1 := by simp [Ex.txt]
      omega)
    have j1 : ¬ ((s.size : Int) ≤ (M : Int)) := by omega
    have j3 : (0 : Int) ≤ (M : Int) := by omega
    have j4 : (M : Int) < (s.size : Int) := by omega
    have j5 : IntKind.i64.wrap ((M : Int) + 1) = (M1 : Int) := by rw [IntWalk.i64_in _ (by omega)]; omega
    have l1 : ¬ ((s.size : Int) ≤ (L : Int)) := by omega
    have l5 : IntKind.i64.wrap ((L : Int) + 1) = (L1 : Int) := by rw [IntWalk.i64_in _ (by omega)]; omega
    clear hat hat2 hat3 hat4 hat5 hata hatb hd hlo hlen h1 h3 h5 h6 iha ihb hk1 hd1 hM hM1 hL hL1 hda hdb
    go_enter Try.func229, Try.ntmps229
    go_wp2_with (go_at_call 257; refine (digit_any 40 false (by decide) _).mono ?_; rintro e w' ⟨rfl, rfl⟩)
    refine HI.out.mono ?_
    rintro e w1 ⟨A, c, rfl, o1, z1⟩
    have HO1 := Lib.hid o1.rd
    have HZ1 := Lib.hid z1
    clear o1 z1
    go_wp2_with fail
    refine (HJ.out w1).mono ?_
    rintro e w2 ⟨B, bc, rfl, o2, z2⟩
    have hz2 : w.heap.size ≤ w2.heap.size := Nat.le_trans HZ1.out.size z2.size
    have HA2 := Lib.hid (Rd.alloc (HO1.out.below z2) (.cells #[.int .i64 5, .int .i64 0] 118))
    have HB2 := Lib.hid (Rd.alloc o2.rd (.cells #[.int .i64 5, .int .i64 0] 118))
    have HO := Lib.hid ((lit1_own w2 5 0 w2.heap.size (Nat.le_refl _)))
    have HZ2 := Lib.hid (HZ1.out.trans (z2.mono HZ1.out.size))
    have HBL : Hid (∀ g, blk B = some g → g < w2.heap.size) := Lib.hid (fun g hg => o2.blk_lt g hg)
    clear o2 z2 HO1 HZ1
    go_upto_region 26 with (at_builtin; refine wpList_append_Own rfl (.tmp 121) (.tmp 122) rfl elEx (lo := w2.heap.size) rfl HO.out rfl HA2.out (cells2_one _) (by omega) (by simp only [maxLen]; omega) (by simp) ?_; intro A5 c5 w5 o5 hg5 _)
    have z25 : Below w2.heap.size w2 w5 := HO.out.below_of ((Below.refl _ _).alloc (Nat.le_refl _) _) hg5 (by simp)
    have HB5 : Hid (Rd w5 2 B b.len (cells2 b.enc)) := Lib.hid (HB2.out.grown hg5 (fun g hg e => by
      have h1 := HO.out.blk_ge g hg
      have h2 := HBL.out g e
      omega))
    have HO5 := Lib.hid o5
    have HZ5 := Lib.hid z25
    have hz5 := z25.size
    clear o5 hg5 z25
    go_wp2_with (at_builtin; refine wpList_append_Own rfl (.tmp 124) (.tmp 125) rfl elEx (lo := w2.heap.size) rfl HO5.out rfl HB5.out (cells2_one _) (by omega) (by simp only [maxLen]; omega) hz5 ?_; intro A6 c6 w6 o6 hg6 _; have HO6 := Lib.hid o6; have HG6 := Lib.hid hg6)
    refine bodyPost_ret (v := .tuple #[.slice A6 (1 + a.len + b.len) c6, .int .i64 (L1 : Int), .bool true]) (by simp [results, Try.results229, go_sem]) rfl ⟨A6, c6, by rw [HL.out]; rfl, ?_, ?_⟩
    · have h := HO6.out
      rw [cells2_append, cells2_append] at h
      exact h.mono hz2
    · exact HZ2.out.trans ((HO5.out.below_of HZ5.out HG6.out hz5).mono hz2)
end Go.Proofs.Ytfheepjfpgiaoaa
