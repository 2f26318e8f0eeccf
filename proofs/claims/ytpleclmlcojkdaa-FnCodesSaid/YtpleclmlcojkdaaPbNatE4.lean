/-
  Contracts of impl's TupleOf, SequenceOf.
-/
import Derived.Test.YtpleclmlcojkdaaPbNatE0
import Derived.Test.YtpleclmlcojkdaaPbNatE1
import Derived.Test.YtpleclmlcojkdaaPbNatE2
import Derived.Test.YtpleclmlcojkdaaPbNatE3
import Derived.ProofKit
import Derived.OpenShut
import Derived.ChangeOld
import Derived.Deep.Slices
import Derived.Lib.SmallJoins
import Derived.Deep.Strs
import Derived.Deep.DeepCutAuto
import Derived.BigRegion
import Derived.BigQuiet
import Derived.Lib.VarintBits
namespace Go.Proofs.Ytpleclmlcojkdaa
open Go.RowKit

/-- Rows that the call made; they may share nothing with the spine. -/
def OW (w : World) (lo : Nat) (A : Option Addr) (n c : Nat) (ts : List Sl) : Prop :=
  Own w lo 25 1 A n c (ts.map Sl.val) ∧ ∀ t ∈ ts, Own w lo 2 1 t.A t.xs.length t.c (ints t.xs)
theorem OW.sii {w : World} {lo n c : Nat} {A : Option Addr} {ts : List Sl} (h : OW w lo A n c ts) : SII w A n ts := ⟨h.1.rd, fun t ht => (h.2 t ht).rd⟩
theorem OW.below {w w' : World} {lo n c : Nat} {A : Option Addr} {ts : List Sl} (h : OW w lo A n c ts) (z : Below w.heap.size w w') : OW w' lo A n c ts := ⟨h.1.below z, fun t ht => (h.2 t ht).below z⟩
theorem OW.alloc {w : World} {lo n c : Nat} {A : Option Addr} {ts : List Sl} (h : OW w lo A n c ts) (o : Obj) : OW (w.alloc o) lo A n c ts := ⟨h.1.alloc o, fun t ht => (h.2 t ht).alloc o⟩
theorem OW.snoc {w w2 : World} {lo n c c2 : Nat} {A A2 : Option Addr} {ts : List Sl} {u : Sl} (h : OW w lo A n c ts) (hs : Own w2 lo 25 1 A2 (n + 1) c2 (ts.map Sl.val ++ [u.val])) (hg : w.grownBy w2 (blk A))
    (hu : Own w lo 2 1 u.A u.xs.length u.c (ints u.xs)) : OW w2 lo A2 (n + 1) c2 (ts ++ [u]) := by
  have far : ∀ {B : Option Addr} {m d lo' : Nat} {xs : List Value}, Own w lo' 2 1 B m d xs → Own w2 lo' 2 1 B m d xs := fun ho => ho.grown hg (fun g hgA hb => Own.blk_ne h.1 ho (by decide) g hgA hb)
  refine ⟨by simpa using hs, fun t ht => ?_⟩
  rcases List.mem_append.1 ht with h1 | h1
  · exact far (h.2 t h1)
  · rw [List.mem_singleton.1 h1]; exact far hu
theorem Own.growR {w w2 : World} {lo lo2 n c m d : Nat} {A B : Option Addr} {cs xs : List Value} (h : Own w lo 25 1 A n c cs) (hg : w.grownBy w2 (blk A)) (hu : Own w lo2 2 1 B m d xs) : Own w2 lo2 2 1 B m d xs :=
  hu.grown hg (fun g hgA hb => Own.blk_ne h hu (by decide) g hgA hb)
/-- Rows of naturals in new memory, and the code OK. -/
def NewRows (w : World) (vs : List Nat) (e : Ending) (w' : World) : Prop :=
  ∃ A c ts, e = .returned (.tuple #[.slice A ts.length c, .int .i64 0]) ∧ OW w' w.heap.size A ts.length c ts ∧ nums ts = vs.map natL ∧ Below w.heap.size w w'
theorem nums_snoc {ts : List Sl} {vs : List Nat} {k v : Nat} {u : Sl} (h : nums ts = (vs.take k).map natL) (hv : vs[k]? = some v) (hu : u.xs = natL v) : nums (ts ++ [u]) = (vs.take (k + 1)).map natL := by
  obtain ⟨hk, rfl⟩ := List.getElem?_eq_some_iff.1 hv
  unfold nums at h ⊢
  rw [List.map_append, h, List.take_succ_eq_append_getElem hk, List.map_append]; simp [hu]
set_option maxRecDepth 100000 in
set_option maxHeartbeats 4000000 in
theorem TupleOfI_any (A : Option Addr) (c : Nat) (vs : List Nat) (w : World) (hx : SI w A (natL (tupN vs)).length (natL (tupN vs))) (h5 : Few5 vs) :
    Calls Try.prog 30 #[.slice A (natL (tupN vs)).length c, .int .i64 (vs.length : Int)] w (NewRows w vs) := by
  have hlen : ∀ j, (natL (tupN (vs.drop j))).length ≤ 12 := fun j => small_len (k := (vs.drop j).length) (tupN_lt _ (fun v hv => h5.2.2 v (List.mem_of_mem_drop hv))) (by have := h5.2.1; simp; omega)
  have hl0 := hlen 0
  rw [List.drop_zero] at hl0
  have HI := Lib.hid (isNatural_any A _ c (tupN vs) w hx (by omega))
  rw [show decide ((natL (tupN vs)).length ≤ 40) = true from decide_eq_true (by omega)] at HI
  have HX := Lib.hid hx
  obtain ⟨K, hK⟩ : ∃ K, K = vs.length := ⟨_, rfl⟩
  have hK1 : 1 ≤ K := by have := h5.1; omega
  have hK5 : K ≤ 5 := by have := h5.2.1; omega
  have hin : inB (K : Int) 1 8 = true := (inB_iff _ _ _).2 (by omega)
  have HIN := Lib.hid hin
  have HLEN := Lib.hid hlen
  have HK := Lib.hid hK
  rw [← hK]
  clear hin hx h5 hlen hl0 hK
  go_enter Try.func30, Try.ntmps30
  go_wp2_with fail
  refine HI.out.mono ?_
  rintro e w' ⟨rfl, rfl⟩
  go_wp2_with fail
  refine (within_is HIN.out _).mono ?_
  rintro e w' ⟨rfl, rfl⟩
  obtain ⟨W1, hW_⟩ : ∃ W_, W_ = w.alloc (.cells #[] 25) := ⟨_, rfl⟩
  have b1 : Blk W1 w.heap.size 25 #[] := by rw [hW_]; exact Blk.new w _ _
  have z1 : Below w.heap.size w W1 := by rw [hW_]; exact (Below.refl _ _).alloc (Nat.le_refl _) _
  have HW1 := Lib.hid hW_
  clear hW_
  have o1 : OW W1 w.heap.size (some ⟨w.heap.size, 0, none⟩) 0 0 [] := ⟨by rw [HW1.out]; exact Own.lit0 w _ 1, fun t ht => by cases ht⟩
  clear b1
  go_upto_region 5 with fail
  go_wp2_with (first | (go_at_call 107; rw [← HW1.out]; refine (cloneI_any A _ c (natL (tupN vs)) W1 (HX.out.below z1) (by have := HLEN.out 0; rw [List.drop_zero] at this; omega)).mono ?_; rintro e W2 ⟨D, dc, rfl, o2, z2⟩))
  have HO1 := Lib.hid (o1.below z2)
  have HO2 : Hid (Own W2 w.heap.size 2 1 D (natL (tupN (vs.drop 0))).length dc (ints (natL (tupN (vs.drop 0))))) := Lib.hid (by rw [List.drop_zero]; exact o2.mono z1.size)
  have HE0 : Hid ((natL (tupN vs)).length = (natL (tupN (vs.drop 0))).length) := Lib.hid (by rw [List.drop_zero])
  have y2 := z1.trans (z2.mono z1.size)
  clear o1 o2 z1 z2 HW1
  go_wp2_with fail
  go_loopw [1, 6, 7] (fun s1 s6 s7 wr => ∃ (j : Nat) (E : Option Addr) (ec : Nat) (ts : List Sl) (R : Option Addr) (rc : Nat), j < K ∧ s1 = .int .i64 ((K - j : Nat) : Int) ∧ s6 = .slice E ts.length ec ∧ s7 = .slice R (natL (tupN (vs.drop j))).length rc ∧
      Hid (OW wr w.heap.size E ts.length ec ts) ∧ Hid (nums ts = (vs.take j).map natL) ∧ Hid (ts.length = j) ∧ Hid (Own wr w.heap.size 2 1 R (natL (tupN (vs.drop j))).length rc (ints (natL (tupN (vs.drop j))))) ∧ Below w.heap.size w wr) (fun s1 _ _ _ => (intOf s1).toNat)
  case atStart => exact ⟨0, _, 0, [], D, dc, by omega, rfl, rfl, by rw [← HE0.out], HO1, Lib.hid rfl, Lib.hid rfl, HO2, y2⟩
  case round =>
    obtain ⟨j, E, ec, ts, R, rc, hj, rfl, rfl, rfl, HT, HN, HTL, HR, hz⟩ := hrel
    have htb : ts.length ≤ 5 := by have := HTL.out; omega
    clear HO1 HO2 y2
    obtain ⟨v, hv⟩ : ∃ v, vs[j]? = some v := ⟨_, List.getElem?_eq_getElem (by have := HK.out; omega)⟩
    have HV := Lib.hid hv
    have HD := Lib.hid (drop_cons hv)
    clear hv
    by_cases hgt : j + 1 < K
    · obtain ⟨q, hq⟩ : ∃ q, q = K - j := ⟨_, rfl⟩
      have hq1 : (1 : Int) < (q : Int) := by omega
      have wq : IntKind.i64.wrap ((q : Int) - 1) = ((K - (j + 1) : Nat) : Int) := by rw [show (q : Int) - 1 = ((K - (j + 1) : Nat) : Int) by omega]; exact IntWalk.i64_in _ (by omega)
      have HP : Hid (tupN (vs.drop j) = pairN v (tupN (vs.drop (j + 1)))) := Lib.hid (by
        rw [HD.out]
        exact tupN_cons (fun h => by have := congrArg List.length h; simp at this; have := HK.out; omega))
      have hlj := HLEN.out j
      rw [HP.out] at HR hlj ⊢
      rw [← hq]
      have hqj : (K - (j + 1)) < q := by omega
      clear hq
      go_wp2_with fail
      refine (unpairOfI_any R _ rc v (tupN (vs.drop (j + 1))) wr HR.out.rd (by omega)).mono ?_
      rintro e W4 ⟨A4, c4, B4, d4, rfl, o4, r4, z4⟩
      have HT4 := HT.out.below z4
      have y4 := hz.trans (z4.mono hz.size)
      have o4' := o4.mono (lo' := w.heap.size) hz.size
      have r4' := r4.mono (lo' := w.heap.size) hz.size
      clear o4 r4
      go_wp2_with (at_builtin; refine wpList_append_Own rfl (.tmp 27) (.tmp 29) rfl elII (lo := w.heap.size) rfl (HT4.alloc _).1 rfl (Rd.new1 W4 (.slice A4 (natL v).length c4) _) (by simp [Value.oneCell']) (by omega) (by simp only [maxLen]; omega) (by have := y4.size; simp; omega) ?_; intro A8 c8 w8 ho8 hg8 hw8)
      have HT8 : Hid (OW w8 w.heap.size A8 (ts ++ ([⟨A4, c4, natL v⟩] : List Sl)).length c8 (ts ++ ([⟨A4, c4, natL v⟩] : List Sl))) := Lib.hid (by
        rw [List.length_append]
        exact OW.snoc (HT4.alloc _) ho8 hg8 (o4'.alloc _))
      have HR8 := Lib.hid ((HT4.alloc (.cells #[.slice A4 (natL v).length c4] 25)).1.growR hg8 (r4'.alloc _))
      have HN8 := Lib.hid (nums_snoc HN.out HV.out (u := ⟨A4, c4, natL v⟩) rfl)
      have y8 := (HT4.alloc (.cells #[.slice A4 (natL v).length c4] 25)).1.below_of (y4.alloc y4.size _) hg8 (by have := y4.size; simp; omega)
      have hl8 : ts.length + 1 = (ts ++ ([⟨A4, c4, natL v⟩] : List Sl)).length := by simp
      rw [hl8]
      clear ho8 hg8 hw8 HT4 o4' r4' y4 z4
      go_wp2_with fail
      go_roundw
      case rel => exact ⟨j + 1, A8, c8, _, B4, d4, hgt, rfl, rfl, rfl, HT8, HN8, Lib.hid (by have := HTL.out; simp; omega), HR8, y8⟩
      case measure => simp [intOf]; omega
    · have hq1 : ¬ (1 : Int) < ((K - j : Nat) : Int) := by omega
      have HJK : Hid (j + 1 = K) := Lib.hid (by omega)
      have HP : Hid (tupN (vs.drop j) = v) := Lib.hid (by
        rw [HD.out, List.drop_eq_nil_of_le (by have := HK.out; have := HJK.out; omega)]; rfl)
      rw [HP.out] at HR ⊢
      have HT0 := HT.out
      go_wp2_with (at_builtin; refine wpList_append_Own rfl (.tmp 31) (.tmp 33) rfl elII (lo := w.heap.size) rfl (HT0.alloc _).1 rfl (Rd.new1 wr (.slice R (natL v).length rc) _) (by simp [Value.oneCell']) (by omega) (by simp only [maxLen]; omega) (by have := hz.size; simp; omega) ?_; intro A8 c8 w8 ho8 hg8 hw8)
      have HT8 : OW w8 w.heap.size A8 (ts ++ ([⟨R, rc, natL v⟩] : List Sl)).length c8 (ts ++ ([⟨R, rc, natL v⟩] : List Sl)) := by
        rw [List.length_append]
        exact OW.snoc (HT0.alloc _) ho8 hg8 (HR.out.alloc _)
      have HN8 : nums (ts ++ ([⟨R, rc, natL v⟩] : List Sl)) = vs.map natL := by
        rw [nums_snoc HN.out HV.out (u := ⟨R, rc, natL v⟩) rfl, List.take_of_length_le (by have := HK.out; have := HJK.out; omega)]
      have y8 := (HT0.alloc (.cells #[.slice R (natL v).length rc] 25)).1.below_of (hz.alloc hz.size _) hg8 (by have := hz.size; simp; omega)
      have hl8 : ts.length + 1 = (ts ++ ([⟨R, rc, natL v⟩] : List Sl)).length := by simp
      rw [hl8]
      go_wp2_with fail
      exact bodyPost_ret (v := .tuple #[.slice A8 (ts ++ ([⟨R, rc, natL v⟩] : List Sl)).length c8, .int .i64 0]) (by simp [results, Try.results30, go_sem]) rfl ⟨A8, c8, _, rfl, HT8, HN8, y8⟩
set_option maxRecDepth 100000 in
set_option maxHeartbeats 4000000 in
theorem SequenceOfI_any (A : Option Addr) (c : Nat) (vs : List Nat) (w : World) (hx : SI w A (natL (seqN vs)).length (natL (seqN vs))) (h5 : Few5 vs) :
    Calls Try.prog 33 #[.slice A (natL (seqN vs)).length c] w (NewRows w vs) := by
  have hlen : ∀ j, (natL (seqN (vs.drop j))).length ≤ 12 := fun j => by have := seq_len h5.2.2 h5.2.1 j; rw [foldN_seq] at this; exact this
  have hl0 := hlen 0
  rw [List.drop_zero] at hl0
  have HI := Lib.hid (isNatural_any A _ c (seqN vs) w hx (by omega))
  rw [show decide ((natL (seqN vs)).length ≤ 40) = true from decide_eq_true (by omega)] at HI
  have HX := Lib.hid hx
  obtain ⟨K, hK⟩ : ∃ K, K = vs.length := ⟨_, rfl⟩
  have hK5 : K ≤ 5 := by have := h5.2.1; omega
  have HLEN := Lib.hid hlen
  have HK := Lib.hid hK
  have HE0 : Hid ((natL (seqN vs)).length = (natL (seqN (vs.drop 0))).length) := Lib.hid (by rw [List.drop_zero])
  have HL1 : Hid ((natL 1).length = 1) := Lib.hid (by rw [natL_one]; rfl)
  clear hx h5 hlen hl0 hK
  go_enter Try.func33, Try.ntmps33
  go_wp2_with fail
  refine HI.out.mono ?_
  rintro e w' ⟨rfl, rfl⟩
  obtain ⟨W1, hW_⟩ : ∃ W_, W_ = w.alloc (.cells #[] 25) := ⟨_, rfl⟩
  have b1 : Blk W1 w.heap.size 25 #[] := by rw [hW_]; exact Blk.new w _ _
  have z1 : Below w.heap.size w W1 := by rw [hW_]; exact (Below.refl _ _).alloc (Nat.le_refl _) _
  have HW1 := Lib.hid hW_
  clear hW_
  have o1 : OW W1 w.heap.size (some ⟨w.heap.size, 0, none⟩) 0 0 [] := ⟨by rw [HW1.out]; exact Own.lit0 w _ 1, fun t ht => by cases ht⟩
  have HO1 := Lib.hid o1
  clear b1 o1
  go_upto_region 4 with fail
  rw [← HW1.out]
  clear HW1
  go_loopw [0, 4] (fun s0 s4 wr => ∃ (j : Nat) (E : Option Addr) (ec : Nat) (ts : List Sl) (R : Option Addr) (rc : Nat), j ≤ K ∧ s0 = .slice R (natL (seqN (vs.drop j))).length rc ∧ s4 = .slice E ts.length ec ∧
      Hid (OW wr w.heap.size E ts.length ec ts) ∧ Hid (nums ts = (vs.take j).map natL) ∧ Hid (ts.length = j) ∧ Hid ((R = A ∧ j = 0) ∨ Own wr w.heap.size 2 1 R (natL (seqN (vs.drop j))).length rc (ints (natL (seqN (vs.drop j))))) ∧ Below w.heap.size w wr) (fun _ s4 _ => match s4 with | .slice _ n _ => 5 - n | _ => 0)
  case atStart => exact ⟨0, _, 0, [], A, c, by omega, by rw [← HE0.out], rfl, HO1, Lib.hid rfl, Lib.hid rfl, Lib.hid (.inl ⟨rfl, rfl⟩), z1⟩
  case round =>
    obtain ⟨j, E, ec, ts, R, rc, hj, rfl, rfl, HT, HN, HTL, HR, hz⟩ := hrel
    clear HO1 z1
    have htb : ts.length ≤ 5 := by have := HTL.out; omega
    have HRS : Hid (SI wr R (natL (seqN (vs.drop j))).length (natL (seqN (vs.drop j)))) := Lib.hid (by
      rcases HR.out with ⟨rfl, rfl⟩ | h
      · rw [List.drop_zero]; exact HX.out.below hz
      · exact h.rd)
    by_cases hjk : j < K
    · obtain ⟨v, hv⟩ : ∃ v, vs[j]? = some v := ⟨_, List.getElem?_eq_getElem (by have := HK.out; omega)⟩
      have HV := Lib.hid hv
      have HD := Lib.hid (drop_cons hv)
      clear hv
      have HP : Hid (seqN (vs.drop j) = pairN v (seqN (vs.drop (j + 1))) + 1) := Lib.hid (by rw [HD.out]; rfl)
      have hlj := HLEN.out j
      rw [HP.out] at HRS hlj ⊢
      have hlp : (natL (pairN v (seqN (vs.drop (j + 1))))).length ≤ 12 := sub_len hlj (by omega)
      have hl0 : 0 < (natL (pairN v (seqN (vs.drop (j + 1))) + 1)).length := by
        rcases Nat.eq_zero_or_pos (natL (pairN v (seqN (vs.drop (j + 1))) + 1)).length with h | h
        · exact absurd ((natL_nil_iff _).1 (List.length_eq_zero_iff.1 h)) (by omega)
        · exact h
      generalize (natL (pairN v (seqN (vs.drop (j + 1))) + 1)).length = lq at *
      have i1 : (0 : Int) < (lq : Int) := by omega
      have i2 : ((ts.length : Int) == 8) = false := by simp; omega
      clear HR
      go_wp2_with fail
      refine (one_nat wr).mono ?_
      rintro e W2 ⟨A2, c2, rfl, o2, z2⟩
      have y2 := hz.trans (z2.mono hz.size)
      go_wp2_with fail
      refine (subtract_any R lq rc (pairN v (seqN (vs.drop (j + 1))) + 1) A2 _ c2 1 W2 (HRS.out.below z2) o2.rd (by omega) (by have := HL1.out; omega) (by omega)).mono ?_
      rw [Nat.add_sub_cancel]
      rintro e W3 ⟨A3, c3, rfl, o3, z3⟩
      have y3 := y2.trans (z3.mono y2.size)
      go_wp2_with fail
      refine (unpairOfI_any A3 _ c3 v (seqN (vs.drop (j + 1))) W3 o3.rd (by omega)).mono ?_
      rintro e W4 ⟨A4, c4, B4, d4, rfl, o4, r4, z4⟩
      have HT4 := ((HT.out.below z2).below z3).below z4
      have y4 := y3.trans (z4.mono y3.size)
      have o4' := o4.mono (lo' := w.heap.size) y3.size
      have r4' := r4.mono (lo' := w.heap.size) y3.size
      clear o4 r4 o2 o3
      go_wp2_with (at_builtin; refine wpList_append_Own rfl (.tmp 24) (.tmp 26) rfl elII (lo := w.heap.size) rfl (HT4.alloc _).1 rfl (Rd.new1 W4 (.slice A4 (natL v).length c4) _) (by simp [Value.oneCell']) (by omega) (by simp only [maxLen]; omega) (by have := y4.size; simp; omega) ?_; intro A8 c8 w8 ho8 hg8 hw8)
      have HT8 : Hid (OW w8 w.heap.size A8 (ts ++ ([⟨A4, c4, natL v⟩] : List Sl)).length c8 (ts ++ ([⟨A4, c4, natL v⟩] : List Sl))) := Lib.hid (by
        rw [List.length_append]
        exact OW.snoc (HT4.alloc _) ho8 hg8 (o4'.alloc _))
      have HR8 := Lib.hid ((HT4.alloc (.cells #[.slice A4 (natL v).length c4] 25)).1.growR hg8 (r4'.alloc _))
      have HN8 := Lib.hid (nums_snoc HN.out HV.out (u := ⟨A4, c4, natL v⟩) rfl)
      have y8 := (HT4.alloc (.cells #[.slice A4 (natL v).length c4] 25)).1.below_of (y4.alloc y4.size _) hg8 (by have := y4.size; simp; omega)
      have hl8 : ts.length + 1 = (ts ++ ([⟨A4, c4, natL v⟩] : List Sl)).length := by simp
      have HM : Hid (5 - (ts ++ ([⟨A4, c4, natL v⟩] : List Sl)).length < 5 - ts.length) := Lib.hid (by have := HTL.out; simp; omega)
      rw [hl8]
      clear ho8 hg8 hw8 HT4 o4' r4' y4 z4
      go_wp2_with fail
      go_roundw
      case rel => exact ⟨j + 1, A8, c8, _, B4, d4, hjk, rfl, rfl, HT8, HN8, Lib.hid (by have := HTL.out; simp; omega), Lib.hid (.inr HR8.out), y8⟩
      case measure => exact HM.out
    · obtain rfl : j = K := by omega
      have HP : Hid (seqN (vs.drop j) = 0) := Lib.hid (by rw [List.drop_eq_nil_of_le (by have := HK.out; omega)]; rfl)
      have HN2 : Hid (nums ts = vs.map natL) := Lib.hid (by rw [HN.out, List.take_of_length_le (by have := HK.out; omega)])
      rw [HP.out, natL_zero, List.length_nil]
      have HTO := HT
      go_wp2_with fail
      exact bodyPost_ret (v := .tuple #[.slice E ts.length ec, .int .i64 0]) (by simp [results, Try.results33, go_sem]) rfl ⟨E, ec, ts, rfl, HTO.out, HN2.out, hz⟩
end Go.Proofs.Ytpleclmlcojkdaa

/-
  From the reading of an argument to the words of the walks, and from a walk to a row's post. No program is in sight.
-/
namespace Go.Proofs.Ytpleclmlcojkdaa
open Go.ChangeShapes Go.WideShapes Go.ChangeAt Go.RowKit Go.Deep

section
variable {H : Type} {enc : TypeId × Value → H} {P : Program} {w : World} {base : Nat} {spare : Nat → Bool} {held : Bool}

theorem addr_none {w : World} {a : Addr} {k : Nat} {v : Value} (h : w.cell? (a.add k) = some v) : a = ⟨a.block, a.off, none⟩ ∨ 0 < k := by
  by_cases hk : k = 0
  · subst hk
    have h1 : (a.add 0) = a := by simp [Addr.add]
    rw [h1] at h
    have := World.cell?_spot h
    left; cases a; simp_all
  · right; omega

/-- A slice of numbers that came in. -/
theorem si_of_trod {t e : TypeId} {fuel : Nat} {v : Value} {x : DataW H × List MemPlace} (ht : P.underlying t = some (.slice e)) (he : P.underlying e = some (.int .i64)) (hc : P.cellsOf e = 1) (h : DataW.trod enc P w base (fun _ => true) held fuel t [v] = some x) :
    ∃ A n c xs, v = .slice A n c ∧ SI w A n xs ∧ n ≤ c ∧ c ≤ 9223372036854775807 ∧ ∀ z ∈ xs, -9223372036854775808 ≤ z ∧ z ≤ 9223372036854775807 := by
  rcases open_ints ht he hc h with ⟨hcs, _⟩ | ⟨a, len, cap, zs, hcs, _, hl, hm, hz, _, hcell, hwf⟩
  · simp at hcs; subst hcs
    exact ⟨none, 0, 0, [], rfl, Rd.nil, by omega, by omega, by simp⟩
  · simp at hcs; subst hcs
    simp at hz
    have hm' : cap ≤ 9223372036854775807 := by simp only [maxLen] at hm; omega
    refine ⟨some a, len, cap, zs.take len, rfl, ⟨by rw [length_ints]; simp; omega, fun hn => ?_⟩, hl, hm', fun z hz' => ?_⟩
    · rw [length_ints] at hn
      simp at hn
      have h0 := hcell 0 (by omega)
      have hs : a = ⟨a.block, a.off, none⟩ := by
        rcases addr_none h0 with h1 | h1
        · exact h1
        · omega
      refine ⟨a.block, a.off, by rw [← hs], fun k hk => ?_⟩
      rw [length_ints] at hk
      simp at hk
      have hk' := hcell k (by omega)
      rw [hs, add_lit] at hk'
      rw [ints_get, hk']
      simp [List.getD, List.getElem?_eq_getElem (show k < zs.length by omega)]
    · have := hwf z (List.mem_of_mem_take hz')
      simpa [Lit.wf, IntKind.min, IntKind.max, IntKind.signed, IntKind.bits] using this

/-- A slice of slices of numbers that came in. -/
theorem sii_of_trod {t e q : TypeId} {fuel : Nat} {v : Value} {x : DataW H × List MemPlace} (ht : P.underlying t = some (.slice e)) (he : P.underlying e = some (.slice q)) (hq : P.underlying q = some (.int .i64)) (ce : P.cellsOf e = 1) (cq : P.cellsOf q = 1)
    (h : DataW.trod enc P w base (fun _ => true) held fuel t [v] = some x) :
    ∃ A n c ts, v = .slice A n c ∧ SII w A n ts ∧ n ≤ c ∧ c ≤ 9223372036854775807 ∧ (∀ t ∈ ts, t.xs.length ≤ t.c ∧ t.c ≤ 9223372036854775807) ∧ ∀ t ∈ ts, ∀ z ∈ t.xs, -9223372036854775808 ≤ z ∧ z ≤ 9223372036854775807 := by
  rcases open_slice1 ht ce h with ⟨hcs, _⟩ | ⟨a, len, cap, m, n, V, D, Pl, hcs, _, hl, hm, hmm, _, hi⟩
  · simp at hcs; subst hcs
    exact ⟨none, 0, 0, [], rfl, ⟨Rd.nil, by simp⟩, by omega, by omega, by simp, by simp⟩
  · simp at hcs; subst hcs
    simp at hmm; subst hmm
    have hm' : m ≤ 9223372036854775807 := by simp only [maxLen] at hm; omega
    have each : ∀ i, i < m → ∃ t : Sl, V i = t.val ∧ SI w t.A t.xs.length t.xs ∧ (t.xs.length ≤ t.c ∧ t.c ≤ 9223372036854775807) ∧ ∀ z ∈ t.xs, -9223372036854775808 ≤ z ∧ z ≤ 9223372036854775807 := by
      intro i him
      obtain ⟨A, k, c, xs, hV, hS, h1, h2, h3⟩ := si_of_trod he hq cq (hi i him).2
      have hk : xs.length = k := hS.len
      subst hk
      exact ⟨⟨A, c, xs⟩, hV, hS, ⟨h1, h2⟩, h3⟩
    have hall : ∃ T : Nat → Sl, ∀ i, i < m → V i = (T i).val ∧ SI w (T i).A (T i).xs.length (T i).xs ∧ ((T i).xs.length ≤ (T i).c ∧ (T i).c ≤ 9223372036854775807) ∧ ∀ z ∈ (T i).xs, -9223372036854775808 ≤ z ∧ z ≤ 9223372036854775807 :=
      ⟨fun i => if h : i < m then (each i h).choose else ⟨none, 0, []⟩, fun i him => by simp only [him, dif_pos]; exact (each i him).choose_spec⟩
    obtain ⟨T, hT⟩ := hall
    refine ⟨some a, len, m, (List.range len).map T, rfl, ⟨⟨by simp, fun hn => ?_⟩, fun t ht' => ?_⟩, hl, hm', fun t ht' => ?_, fun t ht' => ?_⟩
    · simp at hn
      have h0 := (hi 0 (by omega)).1
      have hs : a = ⟨a.block, a.off, none⟩ := by
        rcases addr_none h0 with h1 | h1
        · exact h1
        · omega
      refine ⟨a.block, a.off, by rw [← hs], fun k hk => ?_⟩
      simp at hk
      have hk' := (hi k (by omega)).1
      rw [hs, add_lit, (hT k (by omega)).1] at hk'
      rw [hk']; simp
    · obtain ⟨i, hi', rfl⟩ := List.mem_map.1 ht'
      exact (hT i (by have := List.mem_range.1 hi'; omega)).2.1
    · obtain ⟨i, hi', rfl⟩ := List.mem_map.1 ht'
      exact (hT i (by have := List.mem_range.1 hi'; omega)).2.2.1
    · obtain ⟨i, hi', rfl⟩ := List.mem_map.1 ht'
      exact (hT i (by have := List.mem_range.1 hi'; omega)).2.2.2
end

section
variable {H : Type} {enc : TypeId × Value → H} {P : Program}
theorem trodAll_stays (hl : laidOutB P = true) {W W' : World} {sp : Nat → Bool} (hb : Below W.heap.size W W') : ∀ {ts : List TypeId} {vs : List Value} {ds : List (DataW H)} {ps : List MemPlace}, (∀ t ∈ ts, P.readableRec t = true ∧ t < P.types.size) →
    DataW.TrodAll enc P W 0 (fun _ => true) true ts vs ds ps → (∀ x ∈ ps, x.block < W.heap.size) → (∀ x ∈ ps, sp x.block = true) → DataW.TrodAll enc P W' 0 sp true ts vs ds ps
  | [], vs, ds, ps, _, h, _, _ => by
    obtain ⟨rfl, rfl, rfl⟩ := trodAll_nil h
    exact trodAll_mk0
  | t :: ts, vs, ds, ps, hr, h, hlt, hs => by
    obtain ⟨v, vs', d, ds', p, q, rfl, rfl, rfl, h0, h1⟩ := trodAll_cons h
    exact trodAll_cons_mk (WideElems.Trod_stays hl (hr t (by simp)).1 (hr t (by simp)).2 h0 (fun x hx => hb.same (hlt x (by simp [hx]))) (fun x hx => hs x (by simp [hx])))
      (trodAll_stays hl hb (fun t' ht' => hr t' (by simp [ht'])) h1 (fun x hx => hlt x (by simp [hx])) (fun x hx => hs x (by simp [hx])))

/-- A law's post: it returned true, nothing that was there has turned. -/
theorem law_post {f : Func} {s : ChangeSpec} {b : TypeId} {W W' : World} {args : Array Value} {ds : List (DataW H)} {before : List MemPlace} (hl : laidOutB P = true) (hr : ∀ t ∈ f.params.toList, P.readableRec t = true ∧ t < P.types.size)
    (hvars : s.vars = []) (hres : f.resultTypes = #[b]) (hbool : P.underlying b = some .bool) (h1 : (s.fn H (ds ++ [])).results = [.lit (.bool true)]) (h2 : (s.fn H (ds ++ [])).args = ds) (h3 : (s.fn H (ds ++ [])).vars = [])
    (hW : DataW.Whole enc P f.params.toList s.vars false W args.toList ds [] before) (hb : Below W.heap.size W W') :
    s.post enc P f false true false false W args (.bool true) W' := by
  have hlt : ∀ p ∈ before, p.block < W.heap.size := fun p hp => hW.lt p hp
  have hold : ∀ p ∈ before, (fun b => decide (b < W.heap.size)) p.block = true := fun p hp => by simpa using hlt p hp
  obtain ⟨p, q, hA, hV, hps, hfz, hnd⟩ := id hW
  rw [hvars] at hV
  obtain ⟨_, rfl⟩ := trodVars_none hV
  simp only [List.append_nil] at hps
  subst hps
  refine ⟨ds, [], before, [], before, [], hW, ?_, ?_, ?_, World.keptBut_mono (fun p hp => ⟨hp, ?_⟩) (hb.frame (· ∈ before)), fun h => by cases h⟩
  · rw [h1, hres]
    exact trodAll_mk1 (shut_bool hbool true)
  · rw [h2]
    exact trodAll_stays hl hb hr hA hlt hold
  · rw [h3, hvars]; rfl
  · simp [hp]
end
end Go.Proofs.Ytpleclmlcojkdaa

/-
  From the reading of an argument that is a slice of triples to the words of the walks. No program is in sight.
-/
namespace Go.Proofs.Ytpleclmlcojkdaa
open Go.ChangeShapes Go.WideShapes Go.ChangeAt Go.RowKit Go.Deep

theorem addr_add_add (a : Addr) (i j : Nat) (w : World) (v : Value) (h : w.cell? ((a.add i).add j) = some v) : w.cell? (a.add (i + j)) = some v := by
  rw [← h]
  congr 1
  unfold Addr.add
  by_cases hi : i = 0 <;> by_cases hj : j = 0 <;> simp_all <;> omega

section
variable {H : Type} {enc : TypeId × Value → H} {P : Program} {w : World} {base : Nat} {held : Bool}
/-- A slice of triples that came in. -/
theorem s3_of_trod {t e q : TypeId} {f0 f1 f2 : Field} {fuel : Nat} {v : Value} {x : DataW H × List MemPlace} (ht : P.underlying t = some (.slice e)) (he : P.underlying e = some (.struct #[f0, f1, f2])) (t0 : f0.type = q) (t1 : f1.type = q) (t2 : f2.type = q) (o0 : f0.offset = 0) (o1 : f1.offset = 1) (o2 : f2.offset = 2) (hq : P.underlying q = some (.int .i64)) (ce : P.cellsOf e = 3) (cq : P.cellsOf q = 1)
    (h : DataW.trod enc P w base (fun _ => true) held fuel t [v] = some x) :
    ∃ A n c rs, v = .slice A n c ∧ S3 w A n rs ∧ n ≤ c ∧ c ≤ 9223372036854775807 := by
  rcases open_slice ht h with ⟨hcs, _⟩ | ⟨a, len, cap, m, n, D, Pl, hcs, _, hl, hm, hmm, _, hi⟩
  · simp at hcs; subst hcs
    exact ⟨none, 0, 0, [], rfl, Rd.nil, by omega, by omega⟩
  · simp at hcs; subst hcs
    simp at hmm; subst hmm
    have hm' : m ≤ 9223372036854775807 := by simp only [maxLen] at hm; omega
    have each : ∀ i, i < m → ∃ r : R3, w.cell? (a.add (i * 3 + 0)) = some (.int .i64 r.a) ∧ w.cell? (a.add (i * 3 + 1)) = some (.int .i64 r.b) ∧ w.cell? (a.add (i * 3 + 2)) = some (.int .i64 r.c) := by
      intro i him
      obtain ⟨cs', hc, htr⟩ := hi i him
      rw [ce] at hc
      obtain ⟨_, hlen, hcell⟩ := World.cells?_some hc
      obtain ⟨y0, y1, y2, n', _, _, h0, h1, h2⟩ := trod_struct3 he htr
      rw [t0, o0, cq] at h0
      rw [t1, o1, cq] at h1
      rw [t2, o2, cq] at h2
      match cs', hlen, hcell, h0, h1, h2 with
      | [c0, c1, c2], _, hcell, h0, h1, h2 =>
        simp at h0 h1 h2
        obtain ⟨z0, e0, _, _⟩ := DataW.trod_int hq h0
        obtain ⟨z1, e1, _, _⟩ := DataW.trod_int hq h1
        obtain ⟨z2, e2, _, _⟩ := DataW.trod_int hq h2
        simp only [List.cons.injEq, and_true] at e0 e1 e2
        subst e0 e1 e2
        exact ⟨⟨z0, z1, z2⟩, addr_add_add _ _ _ _ _ (by simpa using hcell 0 (by omega)), addr_add_add _ _ _ _ _ (by simpa using hcell 1 (by omega)), addr_add_add _ _ _ _ _ (by simpa using hcell 2 (by omega))⟩
    have hall : ∃ T : Nat → R3, ∀ i, i < m → w.cell? (a.add (i * 3 + 0)) = some (.int .i64 (T i).a) ∧ w.cell? (a.add (i * 3 + 1)) = some (.int .i64 (T i).b) ∧ w.cell? (a.add (i * 3 + 2)) = some (.int .i64 (T i).c) :=
      ⟨fun i => if h : i < m then (each i h).choose else ⟨0, 0, 0⟩, fun i him => by simp only [him, dif_pos]; exact (each i him).choose_spec⟩
    obtain ⟨T, hT⟩ := hall
    refine ⟨some a, len, m, (List.range len).map T, rfl, ⟨by rw [length_cells3]; simp, fun hn => ?_⟩, hl, hm'⟩
    rw [length_cells3] at hn
    simp at hn
    have h0 := (hT 0 (by omega)).1
    have hs : a = ⟨a.block, a.off, none⟩ := by
      rcases addr_none h0 with h1 | h1
      · exact h1
      · omega
    refine ⟨a.block, a.off, by rw [← hs], fun k hk => ?_⟩
    have hk2 := hk
    rw [length_cells3] at hk2
    simp at hk2
    obtain ⟨i, j, hj, rfl⟩ : ∃ i j, j < 3 ∧ k = i * 3 + j := ⟨k / 3, k % 3, by omega, by omega⟩
    have hg : ((List.range len).map T)[i]? = some (T i) := by simp [show i < len by omega]
    obtain ⟨g0, g1, g2⟩ := cells3_get _ _ _ hg
    obtain ⟨q0, q1, q2⟩ := hT i (by omega)
    rw [hs, add_lit] at q0 q1 q2
    match j, hj with
    | 0, _ => rw [q0, ← g0]; exact List.getElem?_eq_getElem _
    | 1, _ => rw [q1, ← g1]; exact List.getElem?_eq_getElem _
    | 2, _ => rw [q2, ← g2]; exact List.getElem?_eq_getElem _
end
end Go.Proofs.Ytpleclmlcojkdaa

/-
  A struct of one field, by value, opened. No program is in sight.
-/
namespace Go.Proofs.Ytpleclmlcojkdaa
open Go.ChangeShapes Go.WideShapes Go.ChangeAt Go.RowKit Go.Joins Go.Deep

section
variable {H : Type} {enc : TypeId × Value → H} {P : Program} {w : World} {base : Nat} {spare : Nat → Bool} {held : Bool}
theorem array1 {α : Type} {cs : Array α} (h : cs.size = 1) : ∃ c0, cs = #[c0] := by
  obtain ⟨l⟩ := cs
  match l, h with
  | [c0], _ => exact ⟨c0, rfl⟩
theorem trod_struct1 {t : TypeId} {f0 : Field} {fuel : Nat} {cs : List Value} {x : DataW H × List MemPlace} (ht : P.underlying t = some (.struct #[f0])) (h : DataW.trod enc P w base spare held fuel t cs = some x) :
    ∃ y0 n, x = (.agg [y0.1], y0.2) ∧ cs.length = P.cellsOf t ∧ DataW.trod enc P w base spare held n f0.type ((cs.drop f0.offset).take (P.cellsOf f0.type)) = some y0 := by
  obtain ⟨xs, n, _, rfl, hl, hlen, hf⟩ := DataW.trod_struct ht h
  match xs, hlen with
  | [y0], _ => exact ⟨y0, n, by simp, hl, by simpa using hf 0 f0 rfl⟩
theorem open_agg1 {r : Reach} {b0 : Nat} {t : TypeId} {f0 : Field} {v : Value} {d : DataW H} {p : List MemPlace} (hs : P.underlying t = some (.struct #[f0])) (hone : oneCellFields P #[f0] = true) (hC : P.cellsOf t = 1)
    (hv : Value.okWide P w r b0 t v) (h : DataW.Trod enc P w base spare held t v d p) :
    ∃ (v0 : Value) (y0 : DataW H × List MemPlace) (n : Nat), v = .agg #[v0] ∧ d = .agg [y0.1] ∧ p = y0.2 ∧ DataW.trod enc P w base spare held n f0.type [v0] = some y0 := by
  obtain ⟨cs, rfl, hsz⟩ := okWide_struct hs hv
  obtain ⟨c0, rfl⟩ := array1 (hsz.trans hC)
  obtain ⟨fuel, hf⟩ := h
  obtain ⟨y0, n, hx, _, h0⟩ := trod_struct1 hs hf
  obtain ⟨o0, k0⟩ := hone_of hone 0 f0 rfl
  simp only [Prod.mk.injEq] at hx
  exact ⟨c0, y0, n, rfl, hx.1, hx.2, by simpa [Value.cells, o0, k0] using h0⟩
end
end Go.Proofs.Ytpleclmlcojkdaa

/-
  Slices of bytes that came in; the numbers that an input chooses (r8Long, r8At).
-/
namespace Go.Proofs.Ytpleclmlcojkdaa
open Go.ChangeShapes Go.WideShapes Go.ChangeAt Go.RowKit Go.Joins Go.Deep

def byts (xs : List Int) : List Value := xs.map (Value.int .u8)
theorem length_byts (xs : List Int) : (byts xs).length = xs.length := by simp [byts]
/-- A slice of bytes. -/
def SB (w : World) (A : Option Addr) (n : Nat) (xs : List Int) : Prop := Rd w 1 A n (byts xs) ∧ ∀ x ∈ xs, 0 ≤ x ∧ x ≤ 255
section
variable {w w' : World} {A : Option Addr} {n : Nat} {xs : List Int}
theorem SB.len (h : SB w A n xs) : xs.length = n := by have := h.1.1; rw [length_byts] at this; omega
theorem SB.below (h : SB w A n xs) (z : Below w.heap.size w w') : SB w' A n xs := ⟨h.1.below z, h.2⟩
theorem SB.drewN (h : SB w A n xs) (k : Nat) : SB (w.drewN k) A n xs := ⟨h.1.drewN k, h.2⟩
theorem SB.alloc (h : SB w A n xs) (o : Obj) : SB (w.alloc o) A n xs := ⟨h.1.alloc o, h.2⟩
theorem SB.at_ (h : SB w A n xs) {k : Nat} (hk : k < n) : ∃ b off, A = some ⟨b, off, none⟩ ∧ b < w.heap.size ∧ w.cell? ⟨b, off + k, none⟩ = some (.int .u8 (xs[k]'(by rw [h.len]; exact hk))) := by
  have hl := h.len
  obtain ⟨b, off, e, hb, hc⟩ := h.1.at_ (k := k) (by rw [length_byts]; omega)
  exact ⟨b, off, e, hb, by rw [hc]; simp [byts]⟩
end
section
variable {H : Type} {enc : TypeId × Value → H} {P : Program} {w : World} {base : Nat} {held : Bool}
/-- A slice of bytes that came in. -/
theorem sb_of_trod {t e : TypeId} {fuel : Nat} {v : Value} {x : DataW H × List MemPlace} (ht : P.underlying t = some (.slice e)) (he : P.underlying e = some (.int .u8)) (hc : P.cellsOf e = 1) (h : DataW.trod enc P w base (fun _ => true) held fuel t [v] = some x) :
    ∃ A n c xs, v = .slice A n c ∧ SB w A n xs ∧ n ≤ c ∧ c ≤ 9223372036854775807 := by
  rcases open_ints ht he hc h with ⟨hcs, _⟩ | ⟨a, len, cap, zs, hcs, _, hl, hm, hz, _, hcell, hwf⟩
  · simp at hcs; subst hcs
    exact ⟨none, 0, 0, [], rfl, ⟨Rd.nil, by simp⟩, by omega, by omega⟩
  · simp at hcs; subst hcs
    simp at hz
    have hm' : cap ≤ 9223372036854775807 := by simp only [maxLen] at hm; omega
    refine ⟨some a, len, cap, zs.take len, rfl, ⟨⟨by rw [length_byts]; simp; omega, fun hn => ?_⟩, fun z hz' => ?_⟩, hl, hm'⟩
    · rw [length_byts] at hn
      simp at hn
      have h0 := hcell 0 (by omega)
      have hs : a = ⟨a.block, a.off, none⟩ := by
        rcases addr_none h0 with h1 | h1
        · exact h1
        · omega
      refine ⟨a.block, a.off, by rw [← hs], fun k hk => ?_⟩
      rw [length_byts] at hk
      simp at hk
      have hk' := hcell k (by omega)
      rw [hs, add_lit] at hk'
      rw [hk']
      simp [byts, List.getD, List.getElem?_eq_getElem (show k < zs.length by omega)]
    · have := hwf z (List.mem_of_mem_take hz')
      simpa [Lit.wf, IntKind.min, IntKind.max, IntKind.signed, IntKind.bits] using this
end

def longB (n m : Nat) : Bool := decide (1048576 < n) || decide (1048576 < m)
set_option maxHeartbeats 400000 in
theorem r8Long_any (A B : Option Addr) (n c m d : Nat) (w : World) (hn : n ≤ 9223372036854775807) (hm : m ≤ 9223372036854775807) :
    Calls Try.prog 9 #[.slice A n c, .slice B m d] w fun e w' => e = .returned (.bool (longB n m)) ∧ w = w' := by
  go_enter Try.func9, Try.ntmps9
  go_wp2
  all_goals
    go_ret
    exact ⟨ret_bool (by unfold longB; rw [Bool.eq_iff_iff]; simp; omega), rfl⟩
/-- The number below n that an input chooses at place k. -/
def r8AtF (xs : List Int) (k : Nat) (n : Int) : Int := if n ≤ 1 ∨ xs.length ≤ k then 0 else (xs.getD k 0) % n
theorem r8AtF_range (xs : List Int) (k : Nat) (n : Int) (_h : ∀ x ∈ xs, 0 ≤ x ∧ x ≤ 255) : 0 ≤ r8AtF xs k n ∧ (1 ≤ n → r8AtF xs k n < n) := by
  unfold r8AtF
  split
  · omega
  · rename_i h1
    have h2 : 1 < n := by omega
    exact ⟨Int.emod_nonneg _ (by omega), fun _ => Int.emod_lt_of_pos _ (by omega)⟩
end Go.Proofs.Ytpleclmlcojkdaa

/-
  All blocks but one are as they were (the same words as in Src, for seats without a source).
-/
namespace Go.Proofs.Ytpleclmlcojkdaa
open Go.RowKit

/-- All blocks but b are as they were. -/
structure Kb (b : Nat) (W W' : World) : Prop where
  os : W'.os = W.os
  tape : W'.tape = W.tape
  output : W'.output = W.output
  size : W.heap.size ≤ W'.heap.size
  block : ∀ k, k < W.heap.size → k ≠ b → W'.heap[k]? = W.heap[k]?
section
variable {b : Nat} {a W W' : World}
theorem Kb.refl (b : Nat) (W : World) : Kb b W W := ⟨rfl, rfl, rfl, Nat.le_refl _, fun _ _ _ => rfl⟩
theorem Kb.drewN (h : Kb b a W) (n : Nat) : Kb b a (W.drewN n) := ⟨h.os, h.tape, h.output, h.size, h.block⟩
theorem Kb.alloc (h : Kb b a W) (o : Obj) : Kb b a (W.alloc o) := ⟨h.os, h.tape, h.output, Nat.le_trans h.size (by simp), fun k hk hy => (Below.heap_alloc W o k (by have := h.size; omega)).trans (h.block k hk hy)⟩
theorem Kb.trans (h : Kb b a W) (z : Kb b W W') : Kb b a W' := ⟨z.os.trans h.os, z.tape.trans h.tape, z.output.trans h.output, Nat.le_trans h.size z.size, fun k hk hy => (z.block k (by have := h.size; omega) hy).trans (h.block k hk hy)⟩
theorem Kb.set_ (h : Kb b a W) (o : Nat) (u : Value) : Kb b a (W.setCell ⟨b, o, none⟩ u) :=
  ⟨h.os, h.tape, h.output, by simpa [World.setCell] using h.size, fun k hk hy => (Below.heap_setCell W ⟨b, o, none⟩ u k hy).trans (h.block k hk hy)⟩
theorem Kb.blk_ {x : Nat} {t : TypeId} {cs : Array Value} (k : Kb b W W') (h : Blk W x t cs) (hn : x ≠ b) : Blk W' x t cs := (k.block x h.lt hn).trans h
theorem Kb.below {w : World} (k : Kb b W W') (h : Below w.heap.size w W) (hb : w.heap.size ≤ b) : Below w.heap.size w W' :=
  ⟨k.os.trans h.os, k.tape.trans h.tape, k.output.trans h.output, Nat.le_trans h.size k.size, fun x hx => (k.block x (by have := h.size; omega) (by omega)).trans (h.block x hx)⟩
theorem Kb.own {lo s n c : Nat} {e : TypeId} {A : Option Addr} {xs : List Value} (k : Kb b W W') (h : Own W lo e s A n c xs) (hn : blk A ≠ some b) : Own W' lo e s A n c xs :=
  h.kept fun x hx _ hlt => k.block x hlt (fun e => hn (by rw [← e]; exact hx))
end
theorem Kb.of_below {b : Nat} {w w' : World} (h : Below w.heap.size w w') : Kb b w w' := ⟨h.os, h.tape, h.output, h.size, fun k hk _ => h.block k hk⟩
theorem Kb.grown {b lo s n c : Nat} {a W W' : World} {e : TypeId} {E : Option Addr} {xs : List Value} (h : Kb b a W) (ho : Own W lo e s E n c xs) (hlo : a.heap.size ≤ lo) (hg : W.grownBy W' (blk E)) : Kb b a W' :=
  ⟨hg.os.trans h.os, hg.tape.trans h.tape, hg.output.trans h.output, Nat.le_trans h.size hg.size, fun k hk hy => (hg.block k (by have := h.size; omega) (fun e => by have := ho.blk_ge k e.symm; omega)).trans (h.block k hk hy)⟩
theorem Kb.own' {b lo s n c : Nat} {e : TypeId} {A : Option Addr} {xs : List Value} {W W' : World} (k : Kb b W W') (h : Own W lo e s A n c xs) (hb : b < lo) : Own W' lo e s A n c xs :=
  k.own h fun e => by have := h.blk_ge b e; omega
end Go.Proofs.Ytpleclmlcojkdaa

/-
  The reference's source of choices: next, pick, one.
-/
namespace Go.Proofs.Ytpleclmlcojkdaa
open Go.ChangeShapes Go.WideShapes Go.ChangeAt Go.RowKit Go.Joins Go.Deep

/-- A source in memory: bytes, a place of at most T, a seed. -/
def Src (b : Nat) (A : Option Addr) (n c T : Nat) (W : World) : Prop := ∃ (a : Nat) (s : Int), a ≤ T ∧ 0 ≤ s ∧ s ≤ 18446744073709551615 ∧ Blk W b 168 #[.slice A n c, .int .i64 (a : Int), .int .u64 s]
theorem Src.le {b : Nat} {A : Option Addr} {n c T T' : Nat} {W : World} (h : Src b A n c T W) (ht : T ≤ T') : Src b A n c T' W := by
  obtain ⟨a, s, h1, h2⟩ := h
  exact ⟨a, s, by omega, h2⟩
theorem Src.below {b : Nat} {A : Option Addr} {n c T : Nat} {W W' : World} (h : Src b A n c T W) (z : Below W.heap.size W W') : Src b A n c T W' := by
  obtain ⟨a, s, h1, h2, h3, h4⟩ := h
  exact ⟨a, s, h1, h2, h3, h4.below' z⟩
theorem Src.alloc {b : Nat} {A : Option Addr} {n c T : Nat} {W : World} (h : Src b A n c T W) (o : Obj) : Src b A n c T (W.alloc o) := by
  obtain ⟨a, s, h1, h2, h3, h4⟩ := h
  exact ⟨a, s, h1, h2, h3, h4.alloc o⟩
theorem Src.set_at {b : Nat} {A : Option Addr} {n c T k : Nat} {W : World} (h : Src b A n c T W) (hk : k ≠ b) (j : Nat) (u : Value) : Src b A n c T (W.setCell ⟨k, j, none⟩ u) := by
  obtain ⟨a, s, h1, h2, h3, h4⟩ := h
  exact ⟨a, s, h1, h2, h3, (Below.heap_setCell W ⟨k, j, none⟩ u b (by dsimp only; omega)).trans h4⟩
/-- A number from 0 to hi - 1 was chosen. -/
def Got (b : Nat) (A : Option Addr) (n c T : Nat) (hi : Int) (w : World) (e : Ending) (w' : World) : Prop :=
  ∃ x : Int, e = .returned (.int .i64 x) ∧ 0 ≤ x ∧ x < hi ∧ Src b A n c T w' ∧ Kb b w w'
theorem u64_range (x : Int) : 0 ≤ IntKind.u64.wrap x ∧ IntKind.u64.wrap x ≤ 18446744073709551615 := by
  rw [IntKind.wrap_u64]; omega
theorem and255 (x : Int) (h0 : 0 ≤ x) (h1 : x < 18446744073709551616) : 0 ≤ bits BinOp.and IntKind.u64 x 255 ∧ bits BinOp.and IntKind.u64 x 255 < 256 := by
  have h := bits_mask .u64 64 (by decide) wraps_u64 8 (by decide) x h0 (by omega)
  have e : bits BinOp.and IntKind.u64 x 255 = x % 256 := by simpa using h
  rw [e]
  omega
theorem next_low (s : Int) : 0 ≤ wrap64 (bits BinOp.and IntKind.u64 (IntKind.u64.wrap s / 1099511627776) 255) ∧ wrap64 (bits BinOp.and IntKind.u64 (IntKind.u64.wrap s / 1099511627776) 255) < 256 := by
  obtain ⟨h1, h2⟩ := u64_range s
  obtain ⟨h3, h4⟩ := and255 (IntKind.u64.wrap s / 1099511627776) (by omega) (by omega)
  rw [IntWalk.wrap64_in _ (by constructor <;> omega)]
  exact ⟨h3, h4⟩
theorem next_done {b a n c T : Nat} {A : Option Addr} {s s' x : Int} {w w1 : World} {j k : Nat} (hb : Blk w b 168 #[.slice A n c, .int .i64 (a : Int), .int .u64 s]) (ha : a ≤ T) (hx0 : 0 ≤ x) (hx1 : x < 256)
    (hw : w1 = (((w.drewN j).setCell ⟨b, 1, none⟩ (.int .i64 ((a : Int) + 1))).setCell ⟨b, 2, none⟩ (.int .u64 (IntKind.u64.wrap s'))).drewN k) : Got b A n c (T + 1) 256 w (.returned (.int .i64 x)) w1 := by
  subst hw
  obtain ⟨h1, h2⟩ := u64_range s'
  exact ⟨x, rfl, hx0, hx1, ⟨a + 1, _, by omega, h1, h2, ((hb.drewN j).set_ 1 (.int .i64 ((a : Int) + 1))).set_ 2 (.int .u64 (IntKind.u64.wrap s'))⟩, ((((Kb.refl b w).drewN j).set_ 1 _).set_ 2 _).drewN k⟩
set_option maxHeartbeats 2000000 in
theorem next_any (b : Nat) (A : Option Addr) (n c T : Nat) (xs : List Int) (w : World) (hx : SB w A n xs) (hA : ∀ k, blk A = some k → k ≠ b) (hs : Src b A n c T w) (hT : T ≤ 1000000000) (hn : n ≤ 9223372036854775807) :
    Calls Try.prog 161 #[.pointer (some ⟨b, 0, none⟩)] w (Got b A n c (T + 1) 256 w) := by
  obtain ⟨a, s, haT, hs0, hs1, hb⟩ := hs
  have k0 : w.cell? ⟨b, 0, none⟩ = some (.slice A n c) := hb.cell 0
  have k1 : w.cell? ⟨b, 1, none⟩ = some (.int .i64 (a : Int)) := hb.cell 1
  have k2 : w.cell? ⟨b, 2, none⟩ = some (.int .u64 s) := hb.cell 2
  have f1 := hb.frozen 1
  have f2 := hb.frozen 2
  have HB := Lib.hid hb
  have HX := Lib.hid hx
  have HA := Lib.hid hA
  have HT := Lib.hid haT
  have i0 : (a : Int) + 1 ≤ 1000000001 := by omega
  clear hb hx hA haT
  by_cases h : a < n
  · obtain ⟨b', off, rfl, _, hc⟩ := HX.out.at_ h
    obtain ⟨y, hy⟩ : ∃ y, y = xs[a]'(by rw [HX.out.len]; exact h) := ⟨_, rfl⟩
    have hy2 := HX.out.2 _ (List.getElem_mem (l := xs) (n := a) (by rw [HX.out.len]; exact h))
    rw [← hy] at hc hy2
    clear hy
    have i1 : (0 : Int) ≤ (a : Int) := by omega
    have i2 : (a : Int) < (n : Int) := by omega
    have i3 : (a : Int) + 1 ≤ (n : Int) := by omega
    have hne : b' ≠ b := HA.out b' rfl
    go_enter Try.func161, Try.ntmps161
    go_upto_region 2 with fail
    go_quiet (fail)
    go_upto_region 3 with fail
    go_quiet (fail)
    go_upto_region 6 with fail
    go_quiet (fail)
    go_wp2_with fail
    go_ret
    exact next_done HB.out HT.out (by omega) (by omega) rfl
  · have i2 : ¬ (a : Int) < (n : Int) := by omega
    have i3 : ¬ (a : Int) + 1 ≤ (n : Int) := by omega
    go_enter Try.func161, Try.ntmps161
    go_upto_region 2 with fail
    go_quiet (fail)
    go_upto_region 6 with fail
    go_quiet (fail)
    go_wp2_with fail
    go_ret
    exact next_done HB.out HT.out (next_low _).1 (next_low _).2 rfl
theorem SB.kb {b : Nat} {w w' : World} {A : Option Addr} {n : Nat} {xs : List Int} (h : SB w A n xs) (k : Kb b w w') (hA : ∀ x, blk A = some x → x ≠ b) : SB w' A n xs :=
  ⟨h.1.keep fun p hp he => World.cell?_of_block (k.block p.block hp (hA _ he.symm)), h.2⟩
set_option maxHeartbeats 2000000 in
theorem pick_any (b : Nat) (A : Option Addr) (n c T : Nat) (xs : List Int) (m : Int) (w : World) (hx : SB w A n xs) (hA : ∀ k, blk A = some k → k ≠ b) (hs : Src b A n c T w) (hT : T ≤ 900000000) (hn : n ≤ 9223372036854775807) (hm : m ≤ 60000) (hm0 : -60000 ≤ m) :
    Calls Try.prog 74 #[.pointer (some ⟨b, 0, none⟩), .int .i64 m] w (Got b A n c (T + 2) (max m 1) w) := by
  have HX := Lib.hid hx
  have HA := Lib.hid hA
  have HS := Lib.hid hs
  clear hx hA hs
  by_cases h1 : m ≤ 1
  · go_enter Try.func74, Try.ntmps74
    go_wp2_with fail
    go_ret
    exact ⟨0, rfl, by omega, by omega, HS.out.le (by omega), Kb.refl b w⟩
  have h0 : ¬ m = 0 := by omega
  by_cases h2 : m ≤ 200
  · go_enter Try.func74, Try.ntmps74
    go_wp2_with (go_at_call 161; refine (next_any b A n c T xs _ HX.out HA.out HS.out (by omega) hn).mono ?_; rintro e1 w1 ⟨x, rfl, hx0, hx1, hs1, hk1⟩)
    go_ret
    exact ⟨x % m, rfl, Int.emod_nonneg _ h0, by have := Int.emod_lt_of_pos x (show 0 < m by omega); omega, hs1.le (by omega), hk1⟩
  · go_enter Try.func74, Try.ntmps74
    go_upto_region 4 with (go_at_call 161; refine (next_any b A n c T xs _ HX.out HA.out HS.out (by omega) hn).mono ?_; rintro e1 w1 ⟨x, rfl, hx0, hx1, hs1, hk1⟩)
    have HX1 := Lib.hid (HX.out.kb hk1 HA.out)
    have HS1 := Lib.hid hs1
    have HK1 := Lib.hid hk1
    clear hs1 hk1
    go_wp2_with (go_at_call 161; refine (next_any b A n c (T + 1) xs _ HX1.out HA.out HS1.out (by omega) hn).mono ?_; rintro e2 w2 ⟨y, rfl, hy0, hy1, hs2, hk2⟩)
    go_ret
    exact ⟨(x * 256 + y) % m, rfl, Int.emod_nonneg _ h0, by have := Int.emod_lt_of_pos (x * 256 + y) (show 0 < m by omega); omega, hs2, HK1.out.trans hk2⟩
theorem one_any (b : Nat) (A : Option Addr) (n c T : Nat) (xs : List Int) (m : Int) (w : World) (hx : SB w A n xs) (hA : ∀ k, blk A = some k → k ≠ b) (hs : Src b A n c T w) (hT : T ≤ 900000000) (hn : n ≤ 9223372036854775807) (hm : m ≤ 60000) (hm0 : -60000 ≤ m) :
    Calls Try.prog 174 #[.pointer (some ⟨b, 0, none⟩), .int .i64 m] w (fun e w' => ∃ y : Bool, e = .returned (.bool y) ∧ Src b A n c (T + 2) w' ∧ Kb b w w') := by
  go_enter Try.func174, Try.ntmps174
  go_wp2_with (go_at_call 74; refine (pick_any b A n c T xs m _ hx hA hs hT hn hm hm0).mono ?_; rintro e1 w1 ⟨x, rfl, hx0, hx1, hs1, hk1⟩)
  go_ret
  exact ⟨decide (x = 0), rfl, hs1, hk1⟩
set_option maxHeartbeats 1000000 in
/-- A new source. -/
theorem from_any (A : Option Addr) (n c : Nat) (w : World) : Calls Try.prog 72 #[.slice A n c] w (fun e w' => e = .returned (.pointer (some ⟨w.heap.size, 0, none⟩)) ∧ Src w.heap.size A n c 0 w' ∧ Below w.heap.size w w') := by
  obtain ⟨W, hW_⟩ : ∃ W, W = w.alloc (.cells #[.slice A n c, .int .i64 0, .int .u64 0] 168) := ⟨_, rfl⟩
  have b0 : Blk W w.heap.size 168 #[.slice A n c, .int .i64 0, .int .u64 0] := by rw [hW_]; exact Blk.new w _ _
  have y0 : Below w.heap.size w W := by rw [hW_]; exact (Below.refl _ _).alloc (Nat.le_refl _) _
  have HW := Lib.hid hW_
  clear hW_
  go_enter Try.func72, Try.ntmps72
  go_wp2_with fail
  rw [← HW.out]
  go_ret
  exact ⟨rfl, ⟨0, 0, Nat.le_refl _, by omega, by omega, b0⟩, y0⟩
end Go.Proofs.Ytpleclmlcojkdaa
