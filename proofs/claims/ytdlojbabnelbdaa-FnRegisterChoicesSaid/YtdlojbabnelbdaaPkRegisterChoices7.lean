/-
  The walk of the law FnRegisterParts: it returns true, and nothing that was there before has turned.
-/
import Derived.Test.YtdlojbabnelbdaaPkRegisterChoices0
import Derived.Test.YtdlojbabnelbdaaPkRegisterChoices3
import Derived.Test.YtdlojbabnelbdaaPkRegisterChoices4
import Derived.Test.YtdlojbabnelbdaaPkRegisterChoices5
import Derived.Test.YtdlojbabnelbdaaPkRegisterChoices6
import Derived.Test.YtdlojbabnelbdaaRows
namespace Go.Proofs.Ytdlojbabnelbdaa
open Go.RowKit

theorem own_getI {W : World} {lo : Nat} {A : Option Addr} {n c : Nat} {xs : List Int} (h : Own W lo 2 1 A n c (ints xs)) (h0 : 0 < n) : ∃ b off, A = some ⟨b, off, none⟩ ∧ b < W.heap.size ∧ ∀ k, k < n → W.cell? ⟨b, off + k, none⟩ = some (.int .i64 (getI xs (k : Int))) := by
  have hl : xs.length = n := by have := h.len; rw [length_ints] at this; omega
  obtain ⟨b, off, rfl, _, hb, _⟩ := h.at_ (k := 0) (by rw [length_ints]; omega)
  refine ⟨b, off, rfl, hb, fun k hk => ?_⟩
  obtain ⟨b', off', e, _, _, hc, _⟩ := h.at_ (k := k) (by rw [length_ints]; omega)
  simp only [Option.some.injEq, Addr.mk.injEq, and_true] at e
  obtain ⟨rfl, rfl⟩ := e
  rw [hc, ints_get]
  unfold getI
  rw [Int.toNat_natCast, List.getD_eq_getElem?_getD, List.getElem?_eq_getElem (by omega)]
  rfl
/-- A run that is known to end. -/
def RunEnds (w : World) (p : Int) (zs : List Int) (k : Nat) (e : Ending) (w' : World) : Prop :=
  ∃ C c, e = .returned (.tuple #[.agg #[.int .i64 p, .slice C 24 c], .int .i64 (k : Int), .bool true, .int .i64 0]) ∧ Own w' w.heap.size 2 1 C 24 c (ints zs) ∧ Below w.heap.size w w'
theorem runProgram_ends (A : Option Addr) (n l : Nat) (ps : List R4) (C : Option Addr) (c : Nat) (xs : List Int) (k : Nat) (w : World) (hp : S4 w A n ps) (hx : SI w C 24 xs) (hv : validProgB ps = true) (hst : storeB ps ⟨0, xs⟩ = true)
    (hk : k ≤ 200) (hA : AliveP ps ⟨0, xs⟩ k) (he : endP ps (itP ps ⟨0, xs⟩ k)) (hl : (itP ps ⟨0, xs⟩ k).xs.length = 24) :
    Calls Try.prog 19 #[.slice A n l, .agg #[.int .i64 0, .slice C 24 c], .int .i64 200] w (RunEnds w (itP ps ⟨0, xs⟩ k).p (itP ps ⟨0, xs⟩ k).xs k) := by
  refine (runProgram_any A n l ps 0 C 24 c xs 200 w hp hx hv hst (by decide)).mono ?_
  rintro e w' (⟨i, b, D, d, h1, h2, rfl, h4, h5⟩ | ⟨i, h1, _⟩)
  · obtain rfl := h1.at_ hA he hk
    have hb : b = true := h2.2 he
    subst hb
    rw [hl] at h4 ⊢
    exact ⟨D, d, rfl, h4, h5⟩
  · exact (h1.not hA he hk).elim
def consF (xs : List Int) : List Int := (List.range 24).map fun j => r8AtF xs j 6
theorem consF_len (xs : List Int) : (consF xs).length = 24 := by simp [consF]
theorem consF_at (xs : List Int) (k : Nat) (h : k < (consF xs).length) : (consF xs)[k] = r8AtF xs k 6 := by simp [consF]
theorem consF_get (xs : List Int) (hx : ∀ x ∈ xs, 0 ≤ x ∧ x ≤ 255) (q : Int) (h0 : 0 ≤ q) (h1 : q < 24) : 0 ≤ getI (consF xs) q ∧ getI (consF xs) q ≤ 9 := by
  unfold getI
  rw [List.getD_eq_getElem?_getD, List.getElem?_eq_getElem (by rw [consF_len]; omega), Option.getD_some, consF_at]
  have := r8AtF_range xs q.toNat 6 hx
  omega
theorem consF_sto (xs : List Int) (hx : ∀ x ∈ xs, 0 ≤ x ∧ x ≤ 255) (ps : List R4) : storeB ps ⟨0, consF xs⟩ = true := by
  rw [storeB_iff]
  refine ⟨by dsimp only; omega, by dsimp only; omega, consF_len xs, fun x h => ?_⟩
  unfold consF at h
  rw [List.mem_map] at h
  obtain ⟨j, _, rfl⟩ := h
  have := r8AtF_range xs j 6 hx
  omega
theorem prog_valid {ps : List R4} (h : ps.all (validInstrB ps.length) = true) (hl : ps.length ≤ 400) : validProgB ps = true := by
  unfold validProgB; rw [h, decide_eq_true hl]; rfl
theorem clearP_valid {a : Int} (h : 0 ≤ a ∧ a < 24) : validProgB (clearP a) = true :=
  validProg_of (by simp [clearP]) (fun x hx => by obtain rfl := List.mem_singleton.1 hx; rw [validInstr_iff]; simp [clearP]; omega)
theorem moveP_valid {a b c : Int} (h : Abc a b c) : validProgB (moveP a b c) = true :=
  validProg_of (by simp [moveP]) (fun x hx => by
    have := h.ra; have := h.rb; have := h.rc
    simp only [moveP, List.mem_cons, List.not_mem_nil, or_false] at hx
    rcases hx with rfl | rfl | rfl <;> rw [validInstr_iff] <;> simp [moveP] <;> omega)
theorem copyP_valid {a b c : Int} (h : Abc a b c) : validProgB (copyP a b c) = true :=
  validProg_of (by simp [copyP]) (fun x hx => by
    have := h.ra; have := h.rb; have := h.rc
    simp only [copyP, List.mem_cons, List.not_mem_nil, or_false] at hx
    rcases hx with rfl | rfl | rfl | rfl | rfl <;> rw [validInstr_iff] <;> simp [copyP] <;> omega)
theorem ord_nat {os : List Int} (h : OrdOk 24 os) {i : Nat} (hi : i < 24) : ∃ q : Nat, q < 24 ∧ os.getD i 0 = (q : Int) := by
  have := h.2.1 i hi
  exact ⟨(os.getD i 0).toNat, by omega, by omega⟩
theorem ord_ne {os : List Int} (h : OrdOk 24 os) {i j : Nat} (hi : i < 24) (hj : j < 24) (hij : i ≠ j) {p q : Nat} (hp : os.getD i 0 = (p : Int)) (hq : os.getD j 0 = (q : Int)) : (p : Int) ≠ (q : Int) := fun e => hij (h.2.2 i j hi hj (by rw [hp, hq, e]))
theorem ord_cell {W : World} {b off : Nat} {os : List Int} {i q : Nat} (h : ∀ k, k < 24 → W.cell? ⟨b, off + k, none⟩ = some (.int .i64 (getI os (k : Int)))) (hi : i < 24) (hq : os.getD i 0 = (q : Int)) : W.cell? ⟨b, off + i, none⟩ = some (.int .i64 (q : Int)) := by
  rw [h i hi]; unfold getI; rw [Int.toNat_natCast, hq]
theorem s4_of {W : World} {lo : Nat} {A : Option Addr} {n c : Nat} {rs : List R4} (h : Own W lo 133 4 A n c (cells4 rs)) : S4 W A n rs := h.rd
set_option maxRecDepth 100000 in
set_option maxHeartbeats 16000000 in
theorem lawRegisterParts (A : Option Addr) (n c : Nat) (xs : List Int) (B : Option Addr) (m d : Nat) (ys : List Int) (w : World) (hx : SB w A n xs) (hy : SB w B m ys) (hB : ∀ k, blk B = some k → k < w.heap.size) (hn : n ≤ 9223372036854775807) (hm : m ≤ 9223372036854775807) :
    Calls Try.prog 4 #[.slice A n c, .slice B m d] w fun e w' => e = .returned (.bool true) ∧ Below w.heap.size w w' := by
  have HLong := Lib.hid (r8Long_any A B n c m d w hn hm)
  cases hlb : longB n m
  rotate_left
  · rw [hlb] at HLong
    clear hlb
    go_enter Try.func4, Try.ntmps4
    go_wp2_with (go_at_call 12; refine HLong.out.mono ?_; rintro e w' ⟨rfl, rfl⟩)
    go_ret
    exact ⟨rfl, Below.refl _ _⟩
  rw [hlb] at HLong
  clear hlb
  have HX := Lib.hid hx
  have HBY := Lib.hid hx.2
  have HOR := Lib.hid (r8Order_any B m d ys 24 w hy hB hm (by omega))
  clear hx hy hB
  go_enter Try.func4, Try.ntmps4
  go_wp2_with (go_at_call 12; refine HLong.out.mono ?_; rintro e w' ⟨rfl, rfl⟩)
  refine HOR.out.mono ?_
  rintro e1 w1 ⟨D, od, os, hok, rfl, o1, z1⟩
  obtain ⟨bo, oo, rfl, hbo, hoc⟩ := own_getI o1 (by omega)
  have HOK := Lib.hid hok
  have HO1 := Lib.hid o1
  have HZ1 := Lib.hid z1
  obtain ⟨qa, ha24, hqa⟩ := ord_nat hok (i := 0) (by omega)
  obtain ⟨qb, hb24, hqb⟩ := ord_nat hok (i := 1) (by omega)
  obtain ⟨qc, hc24, hqc⟩ := ord_nat hok (i := 2) (by omega)
  have HABC : Hid (Abc (qa : Int) (qb : Int) (qc : Int)) := Lib.hid ⟨by omega, by omega, by omega, ord_ne hok (by omega) (by omega) (by omega) hqa hqb, ord_ne hok (by omega) (by omega) (by omega) hqa hqc, ord_ne hok (by omega) (by omega) (by omega) hqb hqc⟩
  have k0 : w1.cell? ⟨bo, oo, none⟩ = some (.int .i64 (qa : Int)) := ord_cell hoc (i := 0) (by omega) hqa
  have k1 : w1.cell? ⟨bo, oo + 1, none⟩ = some (.int .i64 (qb : Int)) := ord_cell hoc (i := 1) (by omega) hqb
  have k2 : w1.cell? ⟨bo, oo + 2, none⟩ = some (.int .i64 (qc : Int)) := ord_cell hoc (i := 2) (by omega) hqc
  have HQA := Lib.hid hqa
  have HQB := Lib.hid hqb
  have HQC := Lib.hid hqc
  clear hok o1 z1 hoc hqa hqb hqc HOR HLong
  go_wp2_with (at_make; refine wpList_make_Own rfl (.const (.int .i64 24)) (.const (.int .i64 24)) rfl elI (n := 24) (lo := w1.heap.size) rfl rfl (by omega) (by unfold maxLen; omega) (Nat.le_refl _) ?_; intro w2 ho2 hb2 hs2)
  rw [made_ints 24 (consF xs) (consF_len xs)] at ho2
  have HZ2 := Lib.hid (HZ1.out.trans (hb2.mono HZ1.out.size))
  have HO12 := Lib.hid (HO1.out.below hb2)
  have hG : ¬ bo = w1.heap.size := by omega
  have HC2 := Lib.hid ho2
  have hs3 : w1.heap.size < w2.heap.size := by omega
  have hw1 : w.heap.size ≤ w1.heap.size := HZ1.out.size
  clear ho2 hb2 hs2 k0 k1 k2
  go_loopw [10] (fun i wr => ∃ k : Nat, k ≤ 24 ∧ i = .int .i64 (k : Int) ∧ Hid (Own wr w1.heap.size 2 1 (some ⟨w1.heap.size, 0, none⟩) 24 24 (ints (copied (consF xs) k))) ∧ Hid (Own wr w.heap.size 2 1 (some ⟨bo, oo, none⟩) 24 od (ints os)) ∧ Hid (Below w.heap.size w wr)) (fun i _ => 24 - (intOf i).toNat)
  case atStart => exact ⟨0, by omega, rfl, HC2, HO12, HZ2⟩
  case round =>
    obtain ⟨k, hk, rfl, HC, HO, HZ⟩ := hrel
    clear HC2 HO12 HZ2
    by_cases hlt : k < 24
    · have i1 : (k : Int) < 24 := by omega
      have i0 : (0 : Int) ≤ (k : Int) := by omega
      have HR8 := Lib.hid (r8At_any A n c xs k 6 wr (HX.out.below HZ.out) hn (by omega) (by omega) (by omega))
      obtain ⟨v, hv⟩ : ∃ v, v = r8AtF xs k 6 := ⟨_, rfl⟩
      rw [← hv] at HR8
      obtain ⟨b', off', e, hb0, hb1, x0, y0⟩ := HC.out.at_ (k := k) (by rw [length_ints, length_copied _ _ (by rw [consF_len]; omega), consF_len]; exact hlt)
      simp only [Option.some.injEq, Addr.mk.injEq, and_true] at e
      obtain ⟨rfl, rfl⟩ := e
      rw [Nat.zero_add] at x0 y0
      have hC4 := HC.out.set_ (k := k) (by rw [length_ints, length_copied _ _ (by rw [consF_len]; omega), consF_len]; exact hlt) (.int .i64 v)
      rw [ints_set, show (copied (consF xs) k).set k v = copied (consF xs) (k + 1) by rw [hv, ← consF_at xs k (by rw [consF_len]; exact hlt)]; exact copied_next _ _ _, Nat.zero_add] at hC4
      have HC4 := Lib.hid hC4
      have HO4 := Lib.hid (HO.out.far (p := ⟨w1.heap.size, k, none⟩) (fun e => hG (by simpa [blk] using e)) (.int .i64 v))
      have HZ4 := Lib.hid (HZ.out.setCell (p := ⟨w1.heap.size, k, none⟩) hw1 (.int .i64 v))
      clear hC4 hv HC HO HZ
      go_wp2_with fail
      refine HR8.out.mono ?_
      rintro e2 w3 ⟨rfl, rfl⟩
      go_wp2_with fail
      go_roundw
      case rel => exact ⟨k + 1, by omega, by go_num, HC4, HO4, HZ4⟩
      case measure => simp [intOf]; omega
    obtain rfl : k = 24 := by omega
    have i1 : ¬ ((24 : Nat) : Int) < 24 := by omega
    have HCS : Hid (Own wr w1.heap.size 2 1 (some ⟨w1.heap.size, 0, none⟩) 24 24 (ints (consF xs))) := Lib.hid (by have h := HC.out; rw [copied_end _ (by rw [consF_len]; omega)] at h; exact h)
    clear HC hlt
    have HCP := Lib.hid (by have h := copyReg_any (qa : Int) (qb : Int) (qc : Int) wr HABC.out; rw [joinP_copy] at h; exact h : Calls Try.prog 22 #[.int .i64 (qa : Int), .int .i64 (qb : Int), .int .i64 (qc : Int)] wr (NewQ2 wr (copyP (qa : Int) (qb : Int) (qc : Int))))
    go_wp2_with fail
    refine HCP.out.mono ?_
    rintro e3 w3 ⟨D1, d1, rfl, o3, z3⟩
    have HD1 : Hid (Own w3 w.heap.size 133 4 D1 5 d1 (cells4 (copyP (qa : Int) (qb : Int) (qc : Int)))) := Lib.hid (o3.mono HZ.out.size)
    have HZ3 := Lib.hid (HZ.out.trans (z3.mono HZ.out.size))
    have HCS3 := Lib.hid (HCS.out.below z3)
    have HO3 := Lib.hid (HO.out.below z3)
    rw [show (copyP (qa : Int) (qb : Int) (qc : Int)).length = 5 from rfl]
    obtain ⟨W4, hW_⟩ : ∃ W_, W_ = w3.alloc (.cells #[.int .i64 (qb : Int), .int .i64 (qc : Int)] 2) := ⟨_, rfl⟩
    have b4 : Blk W4 w3.heap.size 2 #[.int .i64 (qb : Int), .int .i64 (qc : Int)] := by rw [hW_]; exact Blk.new w3 _ _
    have z4 : Below w3.heap.size w3 W4 := by rw [hW_]; exact (Below.refl _ _).alloc (Nat.le_refl _) _
    have HW4 := Lib.hid hW_
    clear hW_
    have HMV := Lib.hid (by have h := moveTwo_any (qa : Int) (qb : Int) (qc : Int) (some ⟨w3.heap.size, 0, none⟩) 2 W4 (si_lit (xs := [(qb : Int), (qc : Int)]) b4) HABC.out; rw [moveL_two] at h; exact h : Calls Try.prog 23 #[.int .i64 (qa : Int), .slice (some ⟨w3.heap.size, 0, none⟩) 2 2] W4 (NewQ2 W4 (moveP (qa : Int) (qb : Int) (qc : Int))))
    have HZ4 := Lib.hid (HZ3.out.trans (z4.mono HZ3.out.size))
    have HD14 := Lib.hid (HD1.out.below z4)
    have HCS4 := Lib.hid (HCS3.out.below z4)
    have HO4 := Lib.hid (HO3.out.below z4)
    clear o3 z3 z4 b4 HCP HD1 HCS3 HO3 HZ3
    go_wp2_with fail
    rw [← HW4.out]
    clear HW4
    refine HMV.out.mono ?_
    rintro e5 w5 ⟨D2, d2, rfl, o5, z5⟩
    have HD2 : Hid (Own w5 w.heap.size 133 4 D2 3 d2 (cells4 (moveP (qa : Int) (qb : Int) (qc : Int)))) := Lib.hid (o5.mono HZ4.out.size)
    have HZ5 := Lib.hid (HZ4.out.trans (z5.mono HZ4.out.size))
    have HD15 := Lib.hid (HD14.out.below z5)
    have HCS5 := Lib.hid (HCS4.out.below z5)
    have HO5 := Lib.hid (HO4.out.below z5)
    rw [show (moveP (qa : Int) (qb : Int) (qc : Int)).length = 3 from rfl]
    have HCL := Lib.hid (by have h := clearReg_any (qa : Int) w5 ⟨by omega, by omega⟩; rw [moveL_none] at h; exact h : Calls Try.prog 24 #[.int .i64 (qa : Int)] w5 (NewQ2 w5 (clearP (qa : Int))))
    clear o5 z5 HMV HD14 HCS4 HO4 HZ4
    go_wp2_with fail
    refine HCL.out.mono ?_
    rintro e6 w6 ⟨D3, d3, rfl, o6, z6⟩
    have HD3 : Hid (Own w6 w.heap.size 133 4 D3 1 d3 (cells4 (clearP (qa : Int)))) := Lib.hid (o6.mono HZ5.out.size)
    have HZ6 := Lib.hid (HZ5.out.trans (z6.mono HZ5.out.size))
    have HD16 := Lib.hid (HD15.out.below z6)
    have HD26 := Lib.hid (HD2.out.below z6)
    have HCS6 := Lib.hid (HCS5.out.below z6)
    have HO6 := Lib.hid (HO5.out.below z6)
    rw [show (clearP (qa : Int)).length = 1 from rfl]
    clear o6 z6 HCL HD15 HD2 HCS5 HO5 HZ5
    have hcx := consF_get xs HBY.out
    obtain ⟨k1, hk1, hA1, hE1, hL1, v1b, v1a, v1c, v1r⟩ := run_copy HABC.out (consF_len xs) hcx
    obtain ⟨k2, hk2, hA2, hE2, hL2, v2a, v2b, v2c, v2r⟩ := run_move HABC.out (consF_len xs) hcx
    obtain ⟨k3, hk3, hA3, hE3, hL3, v3a, v3r⟩ := run_clear (a := (qa : Int)) (xs := consF xs) ⟨by omega, by omega⟩ (consF_len xs) (hcx qa (by omega) (by omega)).1 (hcx qa (by omega) (by omega)).2
    have HR1 := Lib.hid (runProgram_ends D1 5 d1 _ (some ⟨w1.heap.size, 0, none⟩) 24 (consF xs) k1 w6 HD16.out.rd HCS6.out.rd (copyP_valid HABC.out) (consF_sto xs HBY.out _) hk1 hA1 hE1 hL1)
    have HR2 := Lib.hid (fun W (z : Below w6.heap.size w6 W) => runProgram_ends D2 3 d2 _ (some ⟨w1.heap.size, 0, none⟩) 24 (consF xs) k2 W (HD26.out.below z).rd (HCS6.out.below z).rd (moveP_valid HABC.out) (consF_sto xs HBY.out _) hk2 hA2 hE2 hL2)
    have HR3 := Lib.hid (fun W (z : Below w6.heap.size w6 W) => runProgram_ends D3 1 d3 _ (some ⟨w1.heap.size, 0, none⟩) 24 (consF xs) k3 W (HD3.out.below z).rd (HCS6.out.below z).rd (clearP_valid ⟨by omega, by omega⟩) (consF_sto xs HBY.out _) hk3 hA3 hE3 hL3)
    generalize (itP (copyP (qa : Int) (qb : Int) (qc : Int)) ⟨0, consF xs⟩ k1).p = p1 at *
    generalize (itP (copyP (qa : Int) (qb : Int) (qc : Int)) ⟨0, consF xs⟩ k1).xs = zs1 at *
    generalize (itP (moveP (qa : Int) (qb : Int) (qc : Int)) ⟨0, consF xs⟩ k2).p = p2 at *
    generalize (itP (moveP (qa : Int) (qb : Int) (qc : Int)) ⟨0, consF xs⟩ k2).xs = zs2 at *
    generalize (itP (clearP (qa : Int)) ⟨0, consF xs⟩ k3).p = p3 at *
    generalize (itP (clearP (qa : Int)) ⟨0, consF xs⟩ k3).xs = zs3 at *
    have HV1 := Lib.hid (And.intro v1b (And.intro v1a (And.intro v1c v1r)))
    have HV2 := Lib.hid (And.intro v2a (And.intro v2b (And.intro v2c v2r)))
    have HV3 := Lib.hid (And.intro v3a v3r)
    have HCX := Lib.hid hcx
    clear hcx v1b v1a v1c v1r v2a v2b v2c v2r v3a v3r hA1 hE1 hL1 hA2 hE2 hL2 hA3 hE3 hL3 HD16 HD26 HD3
    go_wp2_with fail
    refine HR1.out.mono ?_
    rintro e7 w7 ⟨C1, c1, rfl, o7, z7⟩
    obtain ⟨W8, hW_⟩ : ∃ W_, W_ = w7.alloc (.cells #[.int .i64 p1, .slice C1 24 c1] 33) := ⟨_, rfl⟩
    have b8 : Blk W8 w7.heap.size 33 #[.int .i64 p1, .slice C1 24 c1] := by rw [hW_]; exact Blk.new w7 _ _
    have z8 : Below w7.heap.size w7 W8 := by rw [hW_]; exact (Below.refl _ _).alloc (Nat.le_refl _) _
    have HW8 := Lib.hid hW_
    clear hW_
    have HZ68 := Lib.hid (z7.trans (z8.mono z7.size))
    have HX8 := Lib.hid (o7.below z8)
    have HB8 := Lib.hid b8
    clear o7 z7 z8 b8 HR1
    have HR2' := Lib.hid (HR2.out W8 HZ68.out)
    go_wp2_with fail
    rw [← HW8.out]
    clear HW8
    refine HR2'.out.mono ?_
    rintro e9 w9 ⟨C2, c2, rfl, o9, z9⟩
    obtain ⟨W10, hW_⟩ : ∃ W_, W_ = w9.alloc (.cells #[.int .i64 p2, .slice C2 24 c2] 33) := ⟨_, rfl⟩
    have b10 : Blk W10 w9.heap.size 33 #[.int .i64 p2, .slice C2 24 c2] := by rw [hW_]; exact Blk.new w9 _ _
    have z10 : Below w9.heap.size w9 W10 := by rw [hW_]; exact (Below.refl _ _).alloc (Nat.le_refl _) _
    have HW10 := Lib.hid hW_
    clear hW_
    have z810 := z9.trans (z10.mono z9.size)
    have HZ610 := Lib.hid (HZ68.out.trans (z810.mono HZ68.out.size))
    have HY10 := Lib.hid (o9.below z10)
    have HX10 := Lib.hid (HX8.out.below z810)
    have HB810 := Lib.hid (HB8.out.below' z810)
    have HB10 := Lib.hid b10
    clear o9 z9 z10 b10 HR2 HR2' z810 HX8 HB8
    have HR3' := Lib.hid (HR3.out W10 HZ610.out)
    go_wp2_with fail
    rw [← HW10.out]
    clear HW10
    refine HR3'.out.mono ?_
    rintro e11 w11 ⟨C3, c3, rfl, o11, z11⟩
    obtain ⟨W, hW_⟩ : ∃ W_, W_ = w11.alloc (.cells #[.int .i64 p3, .slice C3 24 c3] 33) := ⟨_, rfl⟩
    have b12 : Blk W w11.heap.size 33 #[.int .i64 p3, .slice C3 24 c3] := by rw [hW_]; exact Blk.new w11 _ _
    have z12 : Below w11.heap.size w11 W := by rw [hW_]; exact (Below.refl _ _).alloc (Nat.le_refl _) _
    have HW := Lib.hid hW_
    clear hW_
    have z1012 := z11.trans (z12.mono z11.size)
    have HZW := Lib.hid (HZ6.out.trans ((HZ610.out.trans (z1012.mono HZ610.out.size)).mono HZ6.out.size))
    have hZ6W := HZ610.out.trans (z1012.mono HZ610.out.size)
    have hCW := HCS6.out.below hZ6W
    have hOW := HO6.out.below hZ6W
    have hXW := HX10.out.below z1012
    have hYW := HY10.out.below z1012
    have hQW := o11.below z12
    have hb8 := HB810.out.below' z1012
    have hb10 := HB10.out.below' z1012
    have m8 : W.cell? ⟨w7.heap.size, 1, none⟩ = some (.slice C1 24 c1) := hb8.cell 1
    have m10 : W.cell? ⟨w9.heap.size, 1, none⟩ = some (.slice C2 24 c2) := hb10.cell 1
    have m12 : W.cell? ⟨w11.heap.size, 1, none⟩ = some (.slice C3 24 c3) := b12.cell 1
    obtain ⟨xb, xo, rfl, _, hxc⟩ := own_getI hXW (by omega)
    obtain ⟨yb, yo, rfl, _, hyc⟩ := own_getI hYW (by omega)
    obtain ⟨zb, zo, rfl, _, hzc⟩ := own_getI hQW (by omega)
    obtain ⟨_, _, e13, _, hcc⟩ := own_getI hCW (by omega)
    obtain ⟨_, _, e14, _, hoc⟩ := own_getI hOW (by omega)
    simp only [Option.some.injEq, Addr.mk.injEq, and_true] at e13 e14
    obtain ⟨rfl, rfl⟩ := e13
    obtain ⟨rfl, rfl⟩ := e14
    simp only [Nat.zero_add] at hcc
    obtain ⟨va, hva⟩ : ∃ v, v = getI (consF xs) (qa : Int) := ⟨_, rfl⟩
    obtain ⟨vb, hvb⟩ : ∃ v, v = getI (consF xs) (qb : Int) := ⟨_, rfl⟩
    obtain ⟨vc, hvc⟩ : ∃ v, v = getI (consF xs) (qc : Int) := ⟨_, rfl⟩
    have ra := HCX.out qa (by omega) (by omega)
    have rb := HCX.out qb (by omega) (by omega)
    have rc := HCX.out qc (by omega) (by omega)
    rw [← hva] at ra
    rw [← hvb] at rb
    rw [← hvc] at rc
    have ca := hcc qa ha24
    have cb := hcc qb hb24
    have cc := hcc qc hc24
    rw [← hva] at ca
    rw [← hvb] at cb
    rw [← hvc] at cc
    have xa := hxc qa ha24
    have xb_ := hxc qb hb24
    have xc := hxc qc hc24
    rw [HV1.out.2.1, ← hva, ← hvc] at xa
    rw [HV1.out.1, ← hva, ← hvb] at xb_
    rw [HV1.out.2.2.1] at xc
    have ya := hyc qa ha24
    have yb_ := hyc qb hb24
    have yc := hyc qc hc24
    rw [HV2.out.1] at ya
    rw [HV2.out.2.1, ← hva, ← hvb] at yb_
    rw [HV2.out.2.2.1, ← hva, ← hvc] at yc
    have za := hzc qa ha24
    rw [HV3.out.1] at za
    have u1 : IntKind.i64.wrap (va + vb) = va + vb := IntWalk.i64_in _ (by omega)
    have u2 : IntKind.i64.wrap (va + vc) = va + vc := IntWalk.i64_in _ (by omega)
    have HXC := Lib.hid hxc
    have HYC := Lib.hid hyc
    have HZC := Lib.hid hzc
    have HCC := Lib.hid hcc
    have HOC := Lib.hid hoc
    have j0 : (0 : Int) ≤ (qa : Int) := by omega
    have j1 : (qa : Int) < 24 := by omega
    have j2 : (0 : Int) ≤ (qb : Int) := by omega
    have j3 : (qb : Int) < 24 := by omega
    have j4 : (0 : Int) ≤ (qc : Int) := by omega
    have j5 : (qc : Int) < 24 := by omega
    clear hva hvb hvc ra rb rc hxc hyc hzc hcc hoc hCW hOW hXW hYW hQW hb8 hb10 z11 z12 b12 o11 z1012 hZ6W HR3 HR3' HX10 HY10 HB810 HB10 HCS6 HO6 HZ610 HZ68 HZ6
    go_upto_region 20 with fail
    rw [← HW.out]
    clear HW
    go_wp2_with fail
    go_quiet (fail)
    go_wp2_with fail
    go_quiet (fail)
    go_wp2_with fail
    clear ca cb cc xa xb_ xc ya yb_ yc za u1 u2 j0 j1 j2 j3 j4 j5
    rename_i nq1 nq2
    go_loopw [29] (fun i wr => ∃ k q : Nat, 3 ≤ k ∧ k ≤ 24 ∧ i = .int .i64 (k : Int) ∧ wr = W.drewN q) (fun i _ => 24 - (intOf i).toNat)
    case atStart => exact ⟨3, _, by omega, by omega, rfl, World.drewN_drewN _ _ _⟩
    case round =>
      obtain ⟨k, q, hk30, hk, rfl, rfl⟩ := hrel
      by_cases hlt : k < 24
      rotate_left
      · have i2 : ¬ (k : Int) < 24 := by omega
        go_wp2_with fail
        go_ret
        exact ⟨rfl, below_drewN HZW.out _⟩
      have i2 : (k : Int) < 24 := by omega
      have i3 : (0 : Int) ≤ (k : Int) := by omega
      obtain ⟨qr, hr24, hqr⟩ := ord_nat HOK.out (i := k) hlt
      have na : (qr : Int) ≠ (qa : Int) := ord_ne HOK.out hlt (by omega) (by omega) hqr HQA.out
      have nb : (qr : Int) ≠ (qb : Int) := ord_ne HOK.out hlt (by omega) (by omega) hqr HQB.out
      have nc : (qr : Int) ≠ (qc : Int) := ord_ne HOK.out hlt (by omega) (by omega) hqr HQC.out
      have co := ord_cell HOC.out hlt hqr
      obtain ⟨v, hv⟩ : ∃ v, v = getI (consF xs) (qr : Int) := ⟨_, rfl⟩
      have xr := HXC.out qr hr24
      have yr := HYC.out qr hr24
      have zr := HZC.out qr hr24
      have cr := HCC.out qr hr24
      rw [HV1.out.2.2.2 qr (by omega) na nb nc, ← hv] at xr
      rw [HV2.out.2.2.2 qr (by omega) na nb nc, ← hv] at yr
      rw [HV3.out.2 qr (by omega) na, ← hv] at zr
      rw [← hv] at cr
      have j0 : (0 : Int) ≤ (qr : Int) := by omega
      have j1 : (qr : Int) < 24 := by omega
      obtain ⟨V, hV⟩ : ∃ V, V = W.drewN q := ⟨_, rfl⟩
      have HVW := Lib.hid hV
      replace co : V.cell? ⟨bo, oo + k, none⟩ = some (.int .i64 (qr : Int)) := by rw [hV]; exact co
      replace xr : V.cell? ⟨xb, xo + qr, none⟩ = some (.int .i64 v) := by rw [hV]; exact xr
      replace yr : V.cell? ⟨yb, yo + qr, none⟩ = some (.int .i64 v) := by rw [hV]; exact yr
      replace zr : V.cell? ⟨zb, zo + qr, none⟩ = some (.int .i64 v) := by rw [hV]; exact zr
      replace cr : V.cell? ⟨w1.heap.size, qr, none⟩ = some (.int .i64 v) := by rw [hV]; exact cr
      have n8 : V.cell? ⟨w7.heap.size, 1, none⟩ = some (.slice (some ⟨xb, xo, none⟩) 24 c1) := by rw [hV]; exact m8
      have n10 : V.cell? ⟨w9.heap.size, 1, none⟩ = some (.slice (some ⟨yb, yo, none⟩) 24 c2) := by rw [hV]; exact m10
      have n12 : V.cell? ⟨w11.heap.size, 1, none⟩ = some (.slice (some ⟨zb, zo, none⟩) 24 c3) := by rw [hV]; exact m12
      have M8 := Lib.hid m8
      have M10 := Lib.hid m10
      have M12 := Lib.hid m12
      rw [← hV]
      clear hv na nb nc hqr hV m8 m10 m12 hk1 hk2 hk3 hs3 hbo hG ha24 hb24 hc24 hr24
      go_wp2_with fail
      go_quiet (fail)
      go_wp2_with fail
      exact ⟨⟨k + 1, _, by omega, by omega, by go_num, by rw [HVW.out]; exact World.drewN_drewN _ _ _⟩, by simp [intOf]; omega⟩
end Go.Proofs.Ytdlojbabnelbdaa

/-
  The walk of laws.FnRegisterChoices.
-/
namespace Go.Proofs.Ytdlojbabnelbdaa
open Go.RowKit

set_option maxRecDepth 100000 in
set_option maxHeartbeats 16000000 in
theorem lawRegisterChoices (A : Option Addr) (n c : Nat) (xs : List Int) (B : Option Addr) (m d : Nat) (ys : List Int) (w : World) (hx : SB w A n xs) (hy : SB w B m ys) (hA : ∀ k, blk A = some k → k < w.heap.size) (hB : ∀ k, blk B = some k → k < w.heap.size) (hn : n ≤ 9223372036854775807) (hm : m ≤ 9223372036854775807) :
    Calls Try.prog 3 #[.slice A n c, .slice B m d] w fun e w' => e = .returned (.bool true) ∧ Below w.heap.size w w' := by
  have HLong := Lib.hid (r8Long_any A B n c m d w hn hm)
  cases hlb : longB n m
  rotate_left
  · rw [hlb] at HLong
    clear hlb
    go_enter Try.func3, Try.ntmps3
    go_wp2_with (go_at_call 12; refine HLong.out.mono ?_; rintro e w' ⟨rfl, rfl⟩)
    go_ret
    exact ⟨rfl, Below.refl _ _⟩
  rw [hlb] at HLong
  clear hlb
  have HY := Lib.hid hy
  have HYR := Lib.hid hy.2
  have HBB := Lib.hid hB
  have HPA := Lib.hid (r8Program_any A n c xs w hx hA hn)
  clear hx hy hA hB
  go_enter Try.func3, Try.ntmps3
  go_wp2_with (go_at_call 12; refine HLong.out.mono ?_; rintro e w' ⟨rfl, rfl⟩)
  refine HPA.out.mono ?_
  rintro e1 w1 ⟨D1, d1, E1, u1, p, us, rfl, op, ou, hpv, hpl, hu3, hu4, hur, z1⟩
  have HPB := Lib.hid (r8Program_any B m d ys w1 (HY.out.below z1) (fun k hk => by have := HBB.out k hk; have := z1.size; omega) hm)
  have HOP := Lib.hid op
  have HOU := Lib.hid ou
  have HPV := Lib.hid hpv
  have HUR := Lib.hid hur
  have HZ1 := Lib.hid z1
  clear op ou hpv hur z1 HPA HLong
  go_wp2_with fail
  refine HPB.out.mono ?_
  rintro e2 w2 ⟨D2, d2, E2, u2, q, vs, rfl, oq, -, hqv, hql, -, -, -, z2⟩
  have HOQ := Lib.hid oq
  have HQV := Lib.hid hqv
  have HOP2 := Lib.hid (HOP.out.below z2)
  have HOU2 := Lib.hid (HOU.out.below z2)
  have HZ2 := Lib.hid (HZ1.out.trans (z2.mono HZ1.out.size))
  have HR8 := Lib.hid (r8At_any B m d ys 40 3 w2 (HY.out.below HZ2.out) hm (by omega) (by omega) (by omega))
  have hrr := r8AtF_range ys 40 3 HYR.out
  obtain ⟨r, hr⟩ : ∃ r, r = r8AtF ys 40 3 := ⟨_, rfl⟩
  rw [← hr] at HR8 hrr
  have r0 := hrr.1
  have r1 := hrr.2 (by omega)
  obtain ⟨rn, rfl⟩ : ∃ rn : Nat, r = (rn : Int) := ⟨r.toNat, by omega⟩
  clear oq hqv z2 HPB HOP HOU HZ1 hr hrr
  go_wp2_with fail
  refine HR8.out.mono ?_
  rintro e3 w3 ⟨rfl, rfl⟩
  have HLP := Lib.hid (loopProgram_any (rn : Int) D1 d1 p w2 HOP2.out.rd HPV.out (by omega) (by omega))
  go_wp2_with fail
  refine HLP.out.mono ?_
  rintro e4 w4 ⟨D4, d4, rfl, o4, z4⟩
  have HLV : Hid (validProgB (loopP (rn : Int) p) = true) := Lib.hid (loopP_valid HPV.out r0 (by omega) (by omega))
  obtain ⟨NL, hNL⟩ : ∃ NL, NL = (loopP (rn : Int) p).length := ⟨_, rfl⟩
  have HNL : Hid (NL = p.length + 2) := Lib.hid (by rw [hNL]; exact loopP_len (rn : Int) p)
  have HNE : Hid (NL = (loopP (rn : Int) p).length) := Lib.hid hNL
  rw [← hNL]
  rw [← hNL] at o4
  clear hNL
  have hnl : NL ≤ 400 := by have := HNL.out; omega
  have HO4 := Lib.hid o4
  have HOP4 := Lib.hid (HOP2.out.below z4)
  have HOQ4 := Lib.hid (HOQ.out.below z4)
  have HOU4 := Lib.hid (HOU2.out.below z4)
  have HZ4 := Lib.hid (HZ2.out.trans (z4.mono HZ2.out.size))
  have HBP := Lib.hid (branchProgram_any (rn : Int) D1 D2 d1 d2 p q w4 HOP4.out.rd HOQ4.out.rd HPV.out HQV.out (by omega) (by omega))
  clear o4 z4 HLP HR8 HOP2 HOU2 HOQ HZ2
  go_wp2_with fail
  refine HBP.out.mono ?_
  rintro e5 w5 ⟨D5, d5, rfl, o5, z5⟩
  have HBV : Hid (validProgB (branchP (rn : Int) p q) = true) := Lib.hid (branchP_valid HPV.out HQV.out r0 (by omega) (by omega))
  have hbl : (branchP (rn : Int) p q).length = p.length + q.length + 2 := branchP_len (rn : Int) p q
  have HO5 := Lib.hid (o5.mono (lo' := w.heap.size) HZ4.out.size)
  have HO45 := Lib.hid (HO4.out.below z5)
  have HOP5 := Lib.hid (HOP4.out.below z5)
  have HOQ5 := Lib.hid (HOQ4.out.below z5)
  have HOU5 := Lib.hid (HOU4.out.below z5)
  have HZ5 := Lib.hid (HZ4.out.trans (z5.mono HZ4.out.size))
  have HSS := Lib.hid (startStore_any D4 NL d4 (loopP (rn : Int) p) E1 us.length u1 us w5 HO45.out.rd HLV.out (by omega) HOU5.out.rd (by omega) (by omega) (by
    have h := HUR.out
    unfold allIn
    rw [List.all_eq_true]
    intro x hx
    have := h x hx
    rw [inB_iff]; omega))
  clear o5 z5 HBP HO4 HOP4 HOQ4 HOU4 HZ4
  obtain ⟨NB, hNB⟩ : ∃ NB, NB = (branchP (rn : Int) p q).length := ⟨_, rfl⟩
  rw [← hNB]
  rw [← hNB] at HO5 hbl
  have v1 : IntKind.i64.wrap ((p.length : Int) + (q.length : Int)) = (p.length : Int) + (q.length : Int) := IntWalk.i64_in _ (by omega)
  have v2 : IntKind.i64.wrap ((p.length : Int) + (q.length : Int) + 2) = (NB : Int) := by rw [IntWalk.i64_in _ (by omega)]; omega
  have HNB := Lib.hid hbl
  have hnb : NB ≤ 400 := by omega
  clear hNB hbl
  go_wp2_with fail
  refine HSS.out.mono ?_
  rintro e6 w6 ⟨C6, rfl, o6, z6⟩
  obtain ⟨W7, hW_⟩ : ∃ W_, W_ = w6.alloc (.cells #[.int .i64 0, .slice C6 24 24] 33) := ⟨_, rfl⟩
  have b7 : Blk W7 w6.heap.size 33 #[.int .i64 0, .slice C6 24 24] := by rw [hW_]; exact Blk.new w6 _ _
  have z7 : Below w6.heap.size w6 W7 := by rw [hW_]; exact (Below.refl _ _).alloc (Nat.le_refl _) _
  have HW7 := Lib.hid hW_
  clear hW_
  have z57 := z6.trans (z7.mono z6.size)
  have HZ7 := Lib.hid (HZ5.out.trans (z57.mono HZ5.out.size))
  have HS7 := Lib.hid ((o6.below z7).mono (lo' := w.heap.size) HZ5.out.size)
  have HB7 := Lib.hid b7
  have HL7 := Lib.hid (HO45.out.below z57)
  have HO7 := Lib.hid (HO5.out.below z57)
  have HP7 := Lib.hid (HOP5.out.below z57)
  have HQ7 := Lib.hid (HOQ5.out.below z57)
  have HU7 := Lib.hid (HOU5.out.below z57)
  have HVL := Lib.hid (fun W (z : Below W7.heap.size W7 W) => validProg_any D4 NL d4 (loopP (rn : Int) p) W (HL7.out.below z).rd (by omega))
  have HVB := Lib.hid (fun W (z : Below W7.heap.size W7 W) => validProg_any D5 NB d5 (branchP (rn : Int) p q) W (HO7.out.below z).rd (by omega))
  clear o6 z6 z7 z57 b7 HSS HZ5 HO45 HO5 HOP5 HOQ5 HOU5
  go_upto_region 9 with fail
  rw [← HW7.out]
  clear HW7
  go_wp2_with fail
  refine (HVL.out W7 (Below.refl _ _)).mono ?_
  rintro e8 w8 ⟨rfl, z8⟩
  rw [HLV.out]
  have HVB8 := Lib.hid (HVB.out w8 z8)
  have HZ8 := Lib.hid z8
  clear z8 HVL HVB
  go_wp2_with fail
  refine HVB8.out.mono ?_
  rintro e9 w9 ⟨rfl, z9⟩
  rw [HBV.out]
  have HZ9 := Lib.hid (HZ8.out.trans (z9.mono HZ8.out.size))
  have HB9 := Lib.hid (HB7.out.below' HZ9.out)
  have HR1 := Lib.hid (runProgram_few D4 NL d4 (loopP (rn : Int) p) C6 24 us 300 w9 (HL7.out.below HZ9.out).rd (HS7.out.below HZ9.out).rd HLV.out HUR.out (by omega) (by decide))
  obtain ⟨g, hgE⟩ : ∃ g, g = w6.heap.size := ⟨_, rfl⟩
  rw [← hgE] at HB9 HB7
  rw [← hgE]
  clear z9 hgE HVB8 HZ8
  have u0 : w9.cell? ⟨g, 0, none⟩ = some (.int .i64 0) := HB9.out.cell 0
  have u1 : w9.cell? ⟨g, 1, none⟩ = some (.slice C6 24 24) := HB9.out.cell 1
  go_wp2_with fail
  refine HR1.out.mono ?_
  rintro e10 w10 ⟨i1, b1, C10, c10, at1, zs1, HE1, HI1, HZS1, HL1, hi1, rfl, o10, z10⟩
  obtain ⟨W11, hW_⟩ : ∃ W_, W_ = w10.alloc (.cells #[.int .i64 at1, .slice C10 24 c10] 33) := ⟨_, rfl⟩
  have b11 : Blk W11 w10.heap.size 33 #[.int .i64 at1, .slice C10 24 c10] := by rw [hW_]; exact Blk.new w10 _ _
  have z11 : Below w10.heap.size w10 W11 := by rw [hW_]; exact (Below.refl _ _).alloc (Nat.le_refl _) _
  have HW11 := Lib.hid hW_
  clear hW_
  have HZ11 := Lib.hid (HZ9.out.trans ((z10.trans (z11.mono z10.size)).mono HZ9.out.size))
  have HO11 := Lib.hid (o10.below z11)
  have HB11 := Lib.hid b11
  clear u0 u1 o10 z10 z11 b11 HR1
  go_upto_region 12 with fail
  rw [← HW11.out]
  clear HW11
  obtain ⟨xb, xo, rfl, _, hxc⟩ := own_getI HO11.out (by omega)
  have hxr := hxc rn (by omega)
  have b11 := HB11.out
  have u0 : W11.cell? ⟨w10.heap.size, 0, none⟩ = some (.int .i64 at1) := b11.cell 0
  have u1 : W11.cell? ⟨w10.heap.size, 1, none⟩ = some (.slice (some ⟨xb, xo, none⟩) 24 c10) := b11.cell 1
  have j0 : (0 : Int) ≤ (rn : Int) := by omega
  have j1 : (rn : Int) < 24 := by omega
  clear hxc b11
  cases b1
  case' false => go_upto_region 14 with fail
  case' true =>
    have hz : getI zs1 (rn : Int) = 0 := by
      rw [HZS1.out]
      exact loop_ends HPV.out j0 j1 (by omega) (startL_len (by omega)) (fun x hx => by have := startL_few HUR.out x hx; omega) HE1.out.2.1 (HI1.out.1 rfl)
    rw [hz] at hxr
    go_upto_region 14 with fail
  all_goals
    clear hxr u0 u1
    have hb7 := HB7.out.below' HZ11.out
    obtain ⟨ub, uo, e0, _, huc⟩ := own_getI (HU7.out.below HZ11.out) (by omega)
    subst e0
    have hur := huc rn (by omega)
    have k1 : (rn : Int) < (us.length : Int) := by omega
    have hgl : getI (startL us) (rn : Int) = getI us (rn : Int) := by
      unfold getI startL
      rw [List.getD_eq_getElem?_getD, List.getD_eq_getElem?_getD, List.getElem?_append_left (by omega)]
    have HR2 := Lib.hid (runProgram_few D5 NB d5 (branchP (rn : Int) p q) C6 24 us 300 W11 (HO7.out.below HZ11.out).rd (HS7.out.below HZ11.out).rd HBV.out HUR.out (by omega) (by decide))
    have HRQ := Lib.hid (fun W (z : Below W7.heap.size W7 W) => runProgram_few D2 q.length d2 q C6 24 us 290 W (HQ7.out.below z).rd (HS7.out.below z).rd HQV.out HUR.out (by omega) (by decide))
    have HRP := Lib.hid (fun W (z : Below W7.heap.size W7 W) => runProgram_few D1 p.length d1 p C6 24 us 290 W (HP7.out.below z).rd (HS7.out.below z).rd HPV.out HUR.out (by omega) (by decide))
    have u0 : W11.cell? ⟨g, 0, none⟩ = some (.int .i64 0) := hb7.cell 0
    have u1 : W11.cell? ⟨g, 1, none⟩ = some (.slice C6 24 24) := hb7.cell 1
    clear huc hb7
    by_cases hg : 0 < getI us (rn : Int)
    case' pos =>
      obtain ⟨ch, hch⟩ : ∃ ch, ch = q := ⟨_, rfl⟩
      have HCE : Hid ((if 0 < getI (startL us) (rn : Int) then q else p) = ch) := Lib.hid (by rw [hgl, if_pos hg, hch])
      have HRC : Hid (∀ W, Below W7.heap.size W7 W → Calls Try.prog 19 #[.slice D2 q.length d2, .agg #[.int .i64 0, .slice C6 24 24], .int .i64 290] W (RunFew W ch ⟨0, startL us⟩ 290)) := Lib.hid (by rw [hch]; exact HRQ.out)
      clear HRP HRQ
      go_upto_region 17 with fail
    case' neg =>
      obtain ⟨ch, hch⟩ : ∃ ch, ch = p := ⟨_, rfl⟩
      have HCE : Hid ((if 0 < getI (startL us) (rn : Int) then q else p) = ch) := Lib.hid (by rw [hgl, if_neg hg, hch])
      have HRC : Hid (∀ W, Below W7.heap.size W7 W → Calls Try.prog 19 #[.slice D1 p.length d1, .agg #[.int .i64 0, .slice C6 24 24], .int .i64 290] W (RunFew W ch ⟨0, startL us⟩ 290)) := Lib.hid (by rw [hch]; exact HRP.out)
      clear HRP HRQ
      go_upto_region 17 with fail
    all_goals
      clear hg hur hgl hch
      go_wp2_with fail
      refine HR2.out.mono ?_
      rintro e12 w12 ⟨i2, b2, C12, c12, at2, zs2, HE2, HI2, HZS2, HL2, hi2, rfl, o12, z12⟩
      obtain ⟨W13, hW_⟩ : ∃ W_, W_ = w12.alloc (.cells #[.int .i64 at2, .slice C12 24 c12] 33) := ⟨_, rfl⟩
      have b13 : Blk W13 w12.heap.size 33 #[.int .i64 at2, .slice C12 24 c12] := by rw [hW_]; exact Blk.new w12 _ _
      have z13 : Below w12.heap.size w12 W13 := by rw [hW_]; exact (Below.refl _ _).alloc (Nat.le_refl _) _
      have HW13 := Lib.hid hW_
      clear hW_
      have HZ13 := Lib.hid (HZ11.out.trans ((z12.trans (z13.mono z12.size)).mono HZ11.out.size))
      have HO13 := Lib.hid (o12.below z13)
      have HB13 := Lib.hid b13
      have hb7 := HB7.out.below' HZ13.out
      clear u0 u1 o12 z12 z13 b13 HR2
      have u0 : W13.cell? ⟨g, 0, none⟩ = some (.int .i64 0) := hb7.cell 0
      have u1 : W13.cell? ⟨g, 1, none⟩ = some (.slice C6 24 24) := hb7.cell 1
      clear hb7
      go_upto_region 18 with fail
      rw [← HW13.out]
      clear HW13
      have HR3 := Lib.hid (HRC.out W13 HZ13.out)
      go_wp2_with fail
      refine HR3.out.mono ?_
      rintro e14 w14 ⟨i3, b3, C14, c14, at3, zs3, HE3, HI3, HZS3, HL3, hi3, rfl, o14, z14⟩
      obtain ⟨W15, hW_⟩ : ∃ W_, W_ = w14.alloc (.cells #[.int .i64 at3, .slice C14 24 c14] 33) := ⟨_, rfl⟩
      have b15 : Blk W15 w14.heap.size 33 #[.int .i64 at3, .slice C14 24 c14] := by rw [hW_]; exact Blk.new w14 _ _
      have z15 : Below w14.heap.size w14 W15 := by rw [hW_]; exact (Below.refl _ _).alloc (Nat.le_refl _) _
      have HW15 := Lib.hid hW_
      clear hW_
      have zz := z14.trans (z15.mono z14.size)
      have HZ15 := Lib.hid (HZ7.out.trans ((HZ13.out.trans (zz.mono HZ13.out.size)).mono HZ7.out.size))
      have hO15 := o14.below z15
      have hO13 := HO13.out.below zz
      have hb13 := HB13.out.below' zz
      have b15' := b15
      clear u0 u1 z14 z15 HR3 HRC
      go_upto_region 19 with fail
      rw [← HW15.out]
      clear HW15
      have u0 : W15.cell? ⟨w12.heap.size, 0, none⟩ = some (.int .i64 at2) := hb13.cell 0
      have u1 : W15.cell? ⟨w12.heap.size, 1, none⟩ = some (.slice C12 24 c12) := hb13.cell 1
      have v0 : W15.cell? ⟨w14.heap.size, 0, none⟩ = some (.int .i64 at3) := b15'.cell 0
      have v1 : W15.cell? ⟨w14.heap.size, 1, none⟩ = some (.slice C14 24 c14) := b15'.cell 1
      cases b3
      · go_wp2_with fail
        go_ret
        exact ⟨rfl, HZ15.out⟩
      · have HSL : (startL us).length = 24 := startL_len (by omega)
        obtain ⟨nn, n1, n2, hA, hE, hX⟩ := branch_runs HPV.out HQV.out j0 j1 HSL (fun x hx => by have := startL_few HUR.out x hx; omega) (k := i3) (by rw [HCE.out]; exact HE3.out.2.1) (by rw [HCE.out]; exact HI3.out.1 rfl)
        rw [HCE.out, ← HZS3.out] at hX
        obtain rfl := HE2.out.at_ hA hE (by omega)
        have hb2 : b2 = true := HI2.out.2 hE
        subst hb2
        rw [← HZS2.out] at hX
        subst hX
        have k2 : (i3 : Int) ≤ (i2 : Int) := by omega
        have HSM := Lib.hid (r8Same_yes C12 C14 24 c12 c14 zs2 W15 hO13.rd hO15.rd (by omega))
        clear hA hE hO13 hO15 hb13 b15 b15' n1 n2 HSL
        go_wp2_with fail
        refine HSM.out.mono ?_
        rintro e w' ⟨rfl, q9, rfl⟩
        go_wp2_with fail
        go_ret
        exact ⟨rfl, below_drewN HZ15.out _⟩
end Go.Proofs.Ytdlojbabnelbdaa

/-
  For every input, FnRegisterChoices returns true, and each argument reads afterwards as it read before. No conditions.
-/
namespace Go.Proofs.Ytdlojbabnelbdaa.lawRegisterChoicesRow
open Go.ChangeShapes Go.WideShapes Go.ChangeAt Go.RowKit Go.Joins Go.Proofs.Ytdlojbabnelbdaa

theorem own : ownKnob Try.prog.godebug = none := by kernel_rfl
theorem laidOut : laidOutB Try.prog = true := by kernel_rfl
theorem readable : ∀ t ∈ Try.f3.params.toList, Try.prog.readableRec t = true ∧ t < Try.prog.types.size := by
  have h : (Try.f3.params.toList.all fun t => Try.prog.readableRec t && decide (t < Try.prog.types.size)) = true := by kernel_rfl
  intro t ht
  have := List.all_eq_true.1 h t ht
  simpa using this

set_option maxRecDepth 100000 in
theorem lifted (os : Os) (started : os.Started) (H : Type) (enc : TypeId × Value → H) :
    ReturnsInHanded {} Try.checked os 3 .any (Rows.fnRegisterChoicesSpec.pre6 enc Try.prog Try.f3 Rows.fnRegisterChoicesRow.domain false) (Rows.fnRegisterChoicesSpec.post enc Try.prog Try.f3 false true false false) := by
  refine returnsInHanded_of_change (C := Try.checked) own started (by kernel_rfl) Try.func3
    (ChangeSpec.witness6 (enc := enc) (C := Try.checked) false ⟨#[], #[.slice none 0 0, .slice none 0 0], []⟩ 8 (by kernel_rfl) (by kernel_rfl) (by kernel_rfl) (by kernel_rfl)) ?_
  intro W base args ds gs before hval0 hW hcnd _
  have hval : ∀ (j : Nat) t v, Try.f3.params[j]? = some t → args[j]? = some v → Value.okWide Try.prog W .any base t v := hval0
  have hW' := hW
  obtain ⟨p, q, hA0, hV, hbef, hfz, hnd⟩ := hW
  have hA : DataW.TrodAll enc Try.prog W 0 (fun _ => true) true Try.f3.params.toList args.toList ds p := hA0
  rw [Try.params3] at hA hval
  obtain ⟨v0, vs0, d0, ds0, p0, q0, hargs, rfl, rfl, h0, r0⟩ := trodAll_cons hA
  obtain ⟨v1, vs1, d1, ds1, p1, q1, rfl, rfl, rfl, h1, r1⟩ := trodAll_cons r0
  obtain ⟨rfl, rfl, rfl⟩ := trodAll_nil r1
  obtain rfl : args = #[v0, v1] := by cases args; simp_all
  obtain ⟨rfl, rfl⟩ := trodVars_none hV
  obtain ⟨Aa0, na0, ka0, rfl⟩ := okWide_slice Try.underlying22 (hval 0 22 v0 rfl rfl)
  have hB0 := okWide_blk Try.underlying22 (hval 0 22 _ rfl rfl)
  obtain ⟨fuel0, hf0⟩ := h0
  obtain ⟨Aa0', na0', ka0', xa0, ee0, Sa0, la0, ma0⟩ := sb_of_trod (v := .slice Aa0 na0 ka0) Try.underlying22 Try.underlying5 (by kernel_rfl) (by simpa [Value.cells] using hf0)
  simp only [Value.slice.injEq] at ee0
  obtain ⟨rfl, rfl, rfl⟩ := ee0
  obtain ⟨Aa1, na1, ka1, rfl⟩ := okWide_slice Try.underlying22 (hval 1 22 v1 rfl rfl)
  have hB1 := okWide_blk Try.underlying22 (hval 1 22 _ rfl rfl)
  obtain ⟨fuel1, hf1⟩ := h1
  obtain ⟨Aa1', na1', ka1', xa1, ee1, Sa1, la1, ma1⟩ := sb_of_trod (v := .slice Aa1 na1 ka1) Try.underlying22 Try.underlying5 (by kernel_rfl) (by simpa [Value.cells] using hf1)
  simp only [Value.slice.injEq] at ee1
  obtain ⟨rfl, rfl, rfl⟩ := ee1
  refine (lawRegisterChoices Aa0 na0 ka0 xa0 Aa1 na1 ka1 xa1 W Sa0 Sa1 hB0 hB1 (by omega) (by omega)).mono fun e W' ⟨he, hb⟩ => ?_
  subst he
  exact ⟨_, rfl, law_post laidOut readable rfl (by kernel_rfl) Try.underlying4 rfl rfl rfl hW' hb⟩

set_option maxHeartbeats 8000000 in
theorem closed : joinedFacts Try.pinned.checked.prog 3 Try.f3 Rows.fnRegisterChoicesSpec Rows.fnRegisterChoicesRow = true := by
  unfold joinedFacts
  simp only [Bool.and_eq_true]
  repeat' (refine And.intro ?_ ?_)
  all_goals (as_aux_lemma => kernel_rfl)
theorem named : Try.pinned.checked.prog.funcNamed Rows.fnRegisterChoicesRow.func = some 3 := by kernel_rfl
theorem instance_ : decide (Func.isInstance Try.pinned.checked.prog Try.f3 Rows.fnRegisterChoicesRow.origin Rows.fnRegisterChoicesRow.targs) = true := by kernel_rfl
set_option maxHeartbeats 8000000 in
theorem proved : Rows.FnRegisterChoicesSaid :=
  OpenClaim.holds_of_wide 3 Try.f3 rfl rfl rfl rfl rfl rfl rfl ⟨rfl, rfl, rfl, rfl, rfl⟩ rfl rfl rfl rfl rfl named Try.func3 closed
    (of_decide_eq_true instance_) (by unfold Func.isWrapper; first | (rw [if_pos (by decide +kernel)]; kernel_rfl) | (rw [if_neg (by decide +kernel)]; exact ⟨rfl, rfl⟩))
    (fun os started H enc _ => lifted os started H enc)
end Go.Proofs.Ytdlojbabnelbdaa.lawRegisterChoicesRow
