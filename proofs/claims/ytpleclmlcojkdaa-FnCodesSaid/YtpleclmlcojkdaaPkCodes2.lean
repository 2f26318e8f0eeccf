/-
  Contracts of impl's isPrime, primeAt, ValuationOf, PrimeNumber.
-/
import Derived.Test.YtpleclmlcojkdaaPbNatE1
import Derived.Test.YtpleclmlcojkdaaPbNatE5
import Derived.Test.YtpleclmlcojkdaaPkCodes0
import Derived.Test.YtpleclmlcojkdaaPkCodes1
namespace Go.Proofs.Ytpleclmlcojkdaa
open Go.RowKit

theorem primeT_range : ∀ k, k < 9 → 2 ≤ primeT.getD k 0 ∧ primeT.getD k 0 ≤ 23 := by decide
theorem prodP_snoc : ∀ (es : List Int) (k : Nat) (e : Int), prodP k (es ++ [e]) = prodP k es * primeT.getD (k + es.length) 0 ^ (e.toNat + 1)
  | [], k, e => by
    show primeT.getD k 0 ^ (e.toNat + 1) * 1 = 1 * primeT.getD (k + 0) 0 ^ (e.toNat + 1)
    rw [Nat.mul_one, Nat.one_mul]; rfl
  | x :: es, k, e => by
    rw [List.cons_append, prodP, prodP, prodP_snoc es (k + 1) e, List.length_cons, show k + 1 + es.length = k + (es.length + 1) by omega, Nat.mul_assoc]
theorem prodP_le : ∀ (es : List Int) (k : Nat), k + es.length ≤ 9 → (∀ e ∈ es, 0 ≤ e ∧ e < (4 : Nat)) → prodP k es ≤ 23 ^ (4 * es.length)
  | [], k, _, _ => Nat.le_refl _
  | e :: es, k, hk, h => by
    rw [List.length_cons] at hk
    have h1 := h e List.mem_cons_self
    have h2 := (primeT_range k (by omega)).2
    have ih := prodP_le es (k + 1) (by omega) (fun x hx => h x (List.mem_cons_of_mem _ hx))
    rw [prodP, List.length_cons, show 4 * (es.length + 1) = 4 + 4 * es.length by omega, Nat.pow_add 23 4]
    have h3 : primeT.getD k 0 ^ (e.toNat + 1) ≤ 23 ^ (e.toNat + 1) := Nat.pow_le_pow_left h2 _
    have h4 : 23 ^ (e.toNat + 1) ≤ 23 ^ 4 := Nat.pow_le_pow_right (by omega) (by omega)
    exact Nat.mul_le_mul (Nat.le_trans h3 h4) ih
theorem len23 {x j : Nat} (h : x ≤ 23 ^ j) (hj : j ≤ 40) : (natL x).length ≤ 10 := natL_len_le (by
  rw [pw_eq]
  have h1 : 23 ^ j ≤ 23 ^ 40 := Nat.pow_le_pow_right (by omega) hj
  have h2 : (23 : Nat) ^ 40 < 1000000 ^ 10 := by decide +kernel
  have h3 : x < 1000000 ^ 10 := by omega
  exact_mod_cast h3)
theorem ShortW.mem4 {L : Nat} {ws : List Int} (h : ShortW L ws) : ∀ e ∈ ws, 0 ≤ e ∧ e < (4 : Nat) := fun e he => by
  have h1 := h.mem e he
  have h2 := h.four
  omega
theorem ShortW.prod_le {L : Nat} {ws : List Int} (h : ShortW L ws) (j : Nat) : prodP 0 (ws.take j) ≤ 23 ^ 36 := by
  have h1 := h.len
  have h2 := prodP_le (ws.take j) 0 (by rw [List.length_take]; omega) (fun e he => h.mem4 e (List.mem_of_mem_take he))
  exact Nat.le_trans h2 (Nat.pow_le_pow_right (by omega) (by rw [List.length_take]; omega))
theorem isPr_of {n : Nat} (h2 : 2 ≤ n) (h : ∀ d, 2 ≤ d → d < 6 → d * d ≤ n → n % d ≠ 0) : isPr n = true := by
  unfold isPr
  rw [Bool.and_eq_true, List.all_eq_true]
  refine ⟨decide_eq_true h2, fun d hd => ?_⟩
  have h6 := List.mem_range.1 hd
  by_cases h1 : d < 2
  · simp [h1]
  · by_cases h3 : n < d * d
    · simp [h3]
    · simp [h d (by omega) h6 (by omega)]
theorem isPr_not {n d : Nat} (h2 : 2 ≤ d) (h6 : d < 6) (hd : d * d ≤ n) (h0 : n % d = 0) : isPr n = false := by
  unfold isPr
  rw [Bool.and_eq_false_iff]
  right
  rw [List.all_eq_false]
  exact ⟨d, List.mem_range.2 h6, by simp [h0]; omega⟩
set_option maxRecDepth 100000 in
set_option maxHeartbeats 2000000 in
theorem isPrime_any (n : Nat) (w : World) (h2 : 2 ≤ n) (h30 : n ≤ 30) :
    Calls Try.prog 187 #[.int .i64 (n : Int)] w fun e w' => e = .returned (.bool (isPr n)) ∧ w = w' := by
  go_enter Try.func187, Try.ntmps187
  go_wp2_with fail
  go_loop [3] (fun s => ∃ d : Nat, 2 ≤ d ∧ d ≤ 6 ∧ s = .int .i64 (d : Int) ∧ Hid (∀ k, 2 ≤ k → k < d → k * k ≤ n → n % k ≠ 0)) (fun s => 7 - (intOf s).toNat)
  case atStart => exact ⟨2, by omega, by omega, rfl, Lib.hid (fun k h1 h3 => by omega)⟩
  case round =>
    obtain ⟨d, hd2, hd6, rfl, HD⟩ := hrel
    have wd : IntKind.i64.wrap ((d : Int) * (d : Int)) = ((d * d : Nat) : Int) := by
      rw [← Int.natCast_mul]
      have h1 : d * d ≤ 6 * 6 := Nat.mul_le_mul hd6 hd6
      exact IntWalk.i64_in _ (by omega)
    obtain ⟨S, hS⟩ : ∃ S, d * d = S := ⟨_, rfl⟩
    rw [hS] at wd
    by_cases hle : S ≤ n
    · have i1 : (S : Int) ≤ (n : Int) := by omega
      have hd5 : d < 6 := by
        rcases Nat.lt_or_ge d 6 with h | h
        · exact h
        · obtain rfl : d = 6 := by omega
          omega
      have d0 : ((d : Int) == 0) = false := by simp; omega
      have wr : IntKind.i64.wrap ((d : Int) + 1) = (d : Int) + 1 := IntWalk.i64_in _ (by omega)
      obtain ⟨r, hr⟩ : ∃ r : Nat, n % d = r := ⟨_, rfl⟩
      have ht : Int.tmod (n : Int) (d : Int) = (r : Int) := by rw [Int.tmod_eq_emod_of_nonneg (by omega), ← hr]; omega
      have hrn : r < 30 := by rw [← hr]; have := Nat.mod_lt n (show 0 < d by omega); omega
      have wq : IntKind.i64.wrap (r : Int) = (r : Int) := IntWalk.i64_in _ (by omega)
      by_cases h0 : r = 0
      · have HF : Hid (isPr n = false) := Lib.hid (isPr_not hd2 hd5 (by omega) (by omega))
        subst h0
        clear hr hS
        go_wp2_with fail
        go_ret
        exact ⟨by rw [HF.out]; rfl, rfl⟩
      · have HN : Hid (∀ k, 2 ≤ k → k < d + 1 → k * k ≤ n → n % k ≠ 0) := Lib.hid (fun k h1 h3 h4 => by
          rcases Nat.lt_or_ge k d with h | h
          · exact HD.out k h1 h h4
          · obtain rfl : k = d := by omega
            omega)
        have e0 : ((r : Int) == 0) = false := by simp; omega
        clear hr hS h0
        go_wp2_with fail
        go_round
        case rel => exact ⟨d + 1, by omega, by omega, by go_num, HN⟩
        case measure => (simp [intOf] <;> omega)
    · have i1 : ¬ (S : Int) ≤ (n : Int) := by omega
      have i2 : (2 : Int) ≤ (n : Int) := by omega
      have HT : Hid (isPr n = true) := Lib.hid (isPr_of h2 (fun k h1 h3 h4 => by
        rcases Nat.lt_or_ge k d with h | h
        · exact HD.out k h1 h h4
        · have h5 : d * d ≤ k * k := Nat.mul_le_mul h h
          omega))
      clear hS
      go_wp2_with fail
      go_ret
      exact ⟨by rw [HT.out]; rfl, rfl⟩
theorem srch_no {f n k : Nat} (h : isPr n = false) : srch (f + 1) n k = srch f (n + 1) k := by cases k <;> simp [srch, h]
theorem srch_hit {f n : Nat} (h : isPr n = true) : srch (f + 1) n 0 = some n := by simp [srch, h]
theorem srch_next {f n k : Nat} (h : isPr n = true) : srch (f + 1) n (k + 1) = srch f (n + 1) k := by simp [srch, h]
set_option maxRecDepth 100000 in
set_option maxHeartbeats 2000000 in
theorem primeAt_any (k : Nat) (w : World) (h : k < 9) :
    Calls Try.prog 121 #[.int .i64 (k : Int)] w fun e w' => e = .returned (.int .i64 ((primeT.getD k 0 : Nat) : Int)) ∧ w = w' := by
  have HS := Lib.hid (srch_tab k h)
  obtain ⟨V, hV⟩ : ∃ V, primeT.getD k 0 = V := ⟨_, rfl⟩
  rw [hV] at HS ⊢
  clear hV
  go_enter Try.func121, Try.ntmps121
  go_wp2_with fail
  go_loop [0, 3] (fun s0 s3 => ∃ f n k' : Nat, s0 = .int .i64 (k' : Int) ∧ s3 = .int .i64 (n : Int) ∧ k' < 9 ∧ 2 ≤ n ∧ n + f = 26 ∧ Hid (srch f n k' = some V)) (fun _ s3 => 27 - (intOf s3).toNat)
  case atStart => exact ⟨24, 2, k, rfl, rfl, h, by omega, by omega, HS⟩
  case round =>
    obtain ⟨f, n, k', rfl, rfl, hk, hn, hf, HQ⟩ := hrel
    cases f with
    | zero => exact absurd HQ.out (by simp [srch])
    | succ f =>
      have HI := Lib.hid (isPrime_any n w hn (by omega))
      have wn : IntKind.i64.wrap ((n : Int) + 1) = (n : Int) + 1 := IntWalk.i64_in _ (by omega)
      have HQ2 := HQ.out
      cases hp : isPr n with
      | false =>
        rw [hp] at HI
        rw [srch_no hp] at HQ2
        have HQ3 : Hid (srch f (n + 1) k' = some V) := Lib.hid HQ2
        clear HQ2 hp
        go_wp2_with fail
        refine HI.out.mono ?_
        rintro e w' ⟨rfl, rfl⟩
        go_wp2_with fail
        go_round
        case rel => exact ⟨f, n + 1, k', rfl, by go_num, hk, by omega, by omega, HQ3⟩
        case measure => (simp [intOf] <;> omega)
      | true =>
        rw [hp] at HI
        cases k' with
        | zero =>
          have hnv : n = V := by rw [srch_hit hp] at HQ2; exact Option.some.inj HQ2
          have i0 : (((0 : Nat) : Int) == 0) = true := rfl
          clear HQ2 hp
          subst hnv
          go_wp2_with fail
          refine HI.out.mono ?_
          rintro e w' ⟨rfl, rfl⟩
          go_wp2_with fail
          go_ret
          exact ⟨rfl, rfl⟩
        | succ k2 =>
          have HQ3 : Hid (srch f (n + 1) k2 = some V) := Lib.hid (by rw [srch_next hp] at HQ2; exact HQ2)
          have i0 : (((k2 + 1 : Nat) : Int) == 0) = false := by simp; omega
          have wk : IntKind.i64.wrap (((k2 + 1 : Nat) : Int) - 1) = (k2 : Int) := by rw [show ((k2 + 1 : Nat) : Int) - 1 = (k2 : Int) by omega]; exact IntWalk.i64_in _ (by omega)
          obtain ⟨K, hK⟩ : ∃ K, k2 + 1 = K := ⟨_, rfl⟩
          rw [hK] at i0 wk ⊢
          clear HQ2 hp
          go_wp2_with fail
          refine HI.out.mono ?_
          rintro e w' ⟨rfl, rfl⟩
          go_wp2_with fail
          go_round
          case rel => exact ⟨f, n + 1, k2, rfl, by go_num, by omega, by omega, by omega, HQ3⟩
          case measure => (simp [intOf] <;> omega)
end Go.Proofs.Ytpleclmlcojkdaa

/-
  Contracts of impl's ValuationOf, PrimeNumber.
-/
namespace Go.Proofs.Ytpleclmlcojkdaa
open Go.RowKit

theorem pow_split {p E e m : Nat} (h : e < E) : p ^ (E - e) * m = p * (p ^ (E - (e + 1)) * m) := by
  rw [show E - e = (E - (e + 1)) + 1 by omega, Nat.pow_succ, Nat.mul_comm (p ^ (E - (e + 1))) p, Nat.mul_assoc]
set_option maxRecDepth 100000 in
set_option maxHeartbeats 4000000 in
theorem ValuationOf_any (A : Option Addr) (n c p E m : Nat) (w : World) (hp1 : 2 ≤ p) (hp2 : p ≤ 23) (hm : 0 < m) (hmp : m % p ≠ 0) (hx : SI w A n (natL (p ^ E * m))) (hn : n ≤ 40) (hE : E ≤ 9) :
    Calls Try.prog 123 #[.slice A n c, .int .i64 (p : Int)] w fun e w' => e = .returned (.tuple #[.int .i64 (E : Int), .int .i64 0]) ∧ Below w.heap.size w w' := by
  have HI := Lib.hid (isNatural_any A n c _ w hx (by omega))
  rw [show decide (n ≤ 40) = true from decide_eq_true hn] at HI
  have HX := Lib.hid hx
  have hpos : ∀ e, 0 < p ^ e * m := fun e => Nat.mul_pos (Nat.pow_pos (by omega)) hm
  have hn0 : ((n : Int) == 0) = false := by
    have h1 := hx.len
    rcases Nat.eq_zero_or_pos n with h | h
    · exact absurd ((natL_nil_iff _).1 (List.length_eq_zero_iff.1 (h1.trans h))) (by have := hpos E; omega)
    · simp; omega
  have HLB : Hid (∀ e, (natL (p ^ (E - e) * m)).length ≤ 40) := Lib.hid (fun e => by
    have h1 : p ^ (E - e) ≤ p ^ E := Nat.pow_le_pow_right (by omega) (by omega)
    have h2 := natL_len_mono (Nat.mul_le_mul_right m h1)
    have h3 := hx.len
    omega)
  have hin : inB (p : Int) 2 999999 = true := (inB_iff _ _ _).2 (by omega)
  have HIN := Lib.hid hin
  clear hx hin hpos
  go_enter Try.func123, Try.ntmps123
  go_wp2_with fail
  refine HI.out.mono ?_
  rintro e w' ⟨rfl, rfl⟩
  go_wp2_with (go_at_call 92; refine (within_is HIN.out _).mono ?_; rintro e w' ⟨rfl, rfl⟩)
  go_loopw [0, 6] (fun s0 s6 wr => ∃ (e : Nat) (R : Option Addr) (rn rc : Nat), e ≤ E ∧ s0 = .slice R rn rc ∧ s6 = .int .i64 (e : Int) ∧ Hid (SI wr R rn (natL (p ^ (E - e) * m))) ∧ Below w.heap.size w wr) (fun _ s6 _ => 10 - (intOf s6).toNat)
  case atStart => exact ⟨0, A, n, c, Nat.zero_le _, rfl, rfl, HX, Below.refl _ _⟩
  case round =>
    obtain ⟨e, R, rn, rc, he, rfl, rfl, HR, hz⟩ := hrel
    have hrn : rn ≤ 40 := by have h1 := HR.out.len; have h2 := HLB.out e; omega
    have we : IntKind.i64.wrap ((e : Int) + 1) = (e : Int) + 1 := IntWalk.i64_in _ (by omega)
    have HD := Lib.hid (divideSmall_any R rn rc (p ^ (E - e) * m) p wr HR.out (by omega) (by omega) (by omega))
    by_cases hlt : e < E
    · have HQ1 : Hid (p ^ (E - e) * m / p = p ^ (E - (e + 1)) * m) := Lib.hid (by rw [pow_split hlt]; exact Nat.mul_div_cancel_left _ (by omega))
      have HQ2 : Hid (p ^ (E - e) * m % p = 0) := Lib.hid (by rw [pow_split hlt]; exact Nat.mul_mod_right _ _)
      rw [HQ1.out, HQ2.out] at HD
      go_wp2_with fail
      refine HD.out.mono ?_
      rintro ed W2 ⟨A2, c2, rfl, o2, z2⟩
      have hz2 := hz.trans (z2.mono hz.size)
      have HR2 := Lib.hid (show SI W2 A2 _ (natL (p ^ (E - (e + 1)) * m)) from o2.rd)
      clear o2 z2
      go_wp2_with fail
      go_roundw
      case rel => exact ⟨e + 1, A2, _, c2, by omega, rfl, by go_num, HR2, hz2⟩
      case measure => (simp [intOf] <;> omega)
    · obtain rfl : e = E := by omega
      obtain ⟨r, hr⟩ : ∃ r, p ^ (e - e) * m % p = r := ⟨_, rfl⟩
      have hr0 : ((r : Int) == 0) = false := by
        rw [Nat.sub_self, Nat.pow_zero, Nat.one_mul] at hr
        simp; omega
      rw [hr] at HD
      clear hr
      go_wp2_with fail
      refine HD.out.mono ?_
      rintro ed W2 ⟨A2, c2, rfl, o2, z2⟩
      have hz2 := hz.trans (z2.mono hz.size)
      go_wp2_with fail
      exact bodyPost_ret (v := .tuple #[.int .i64 (e : Int), .int .i64 0]) (by simp [results, Try.results123, go_sem]) rfl ⟨rfl, hz2⟩
set_option maxRecDepth 100000 in
set_option maxHeartbeats 4000000 in
theorem PrimeNumber_any {L : Nat} {ws : List Int} (h : ShortW L ws) (A : Option Addr) (n c : Nat) (w : World) (hx : SI w A n ws) :
    Calls Try.prog 40 #[.slice A n c] w (NewN2 w (prodP 0 ws) 0) := by
  have hn9 : n ≤ 9 := by have := hx.len; have := h.len; omega
  have HH := Lib.hid h
  have HX := Lib.hid hx
  have HXL := Lib.hid hx.len
  have HAW := Lib.hid (allWithin_ok (lo := 0) (hi := 800) (v := true) (by
    unfold allIn
    rw [List.all_eq_true]
    intro y hy
    have := h.mem4 y hy
    exact (inB_iff _ _ _).2 (by omega)) A n c w hx (by omega))
  have i24 : ¬ (24 : Int) < (n : Int) := by omega
  clear h hx
  go_enter Try.func40, Try.ntmps40
  go_wp2_with (go_at_call 113; refine HAW.out.mono ?_; rintro e w' ⟨rfl, rfl⟩)
  refine (one_nat w).mono ?_
  rintro e W1 ⟨B, d, rfl, o1, z1⟩
  have HO1 : Hid (Own W1 w.heap.size 2 1 B (natL (prodP 0 (ws.take 0))).length d (ints (natL (prodP 0 (ws.take 0))))) := Lib.hid (by rw [List.take_zero]; exact o1)
  have HE0 : Hid ((natL 1).length = (natL (prodP 0 (ws.take 0))).length) := Lib.hid (by rw [List.take_zero]; rfl)
  clear o1
  go_upto_region 5 with fail
  go_loopw [4, 19] (fun s4 s19 wr => ∃ (j : Nat) (E : Option Addr) (ec : Nat), j ≤ n ∧ s19 = .int .i64 (j : Int) ∧ s4 = .slice E (natL (prodP 0 (ws.take j))).length ec ∧ Hid (Own wr w.heap.size 2 1 E (natL (prodP 0 (ws.take j))).length ec (ints (natL (prodP 0 (ws.take j))))) ∧ Below w.heap.size w wr) (fun _ s19 _ => n - (intOf s19).toNat)
  case atStart => exact ⟨0, B, d, Nat.zero_le _, rfl, by rw [← HE0.out], HO1, z1⟩
  case round =>
    obtain ⟨j, E, ec, hj, rfl, rfl, HO, hz⟩ := hrel
    clear HO1 z1
    by_cases hlt : j < n
    · have i1 : (j : Int) < (n : Int) := by omega
      have i2 : (0 : Int) ≤ (j : Int) := by omega
      obtain ⟨g, o, hAE, hgl, hc⟩ := (HX.out.below hz).at_ hlt
      have hdr := HH.out.mem4 _ (List.getElem_mem (show j < ws.length by rw [HXL.out]; exact hlt))
      obtain ⟨v, hv⟩ : ∃ v, ws[j]'(by rw [HXL.out]; exact hlt) = v := ⟨_, rfl⟩
      have HTK : Hid (ws.take (j + 1) = ws.take j ++ [v]) := Lib.hid (by rw [List.take_succ_eq_append_getElem (by rw [HXL.out]; exact hlt), hv])
      have HTL : Hid ((ws.take j).length = j) := Lib.hid (by rw [List.length_take, HXL.out]; omega)
      rw [hv] at hdr hc
      obtain ⟨q, rfl⟩ : ∃ q : Nat, v = (q : Int) := ⟨v.toNat, by omega⟩
      have hq : q ≤ 3 := by omega
      have HP := Lib.hid (primeAt_any j)
      have hpr := primeT_range j (by omega)
      obtain ⟨p, hp⟩ : ∃ p, primeT.getD j 0 = p := ⟨_, rfl⟩
      have HPS : Hid (prodP 0 (ws.take (j + 1)) = prodP 0 (ws.take j) * p ^ (q + 1)) := Lib.hid (by
        rw [HTK.out, prodP_snoc, HTL.out, Nat.zero_add, Int.toNat_natCast, hp])
      obtain ⟨N, hN⟩ : ∃ N, prodP 0 (ws.take j) = N := ⟨_, rfl⟩
      have HNB : Hid (∀ i, i ≤ q + 1 → (natL (N * p ^ i)).length ≤ 10) := Lib.hid (fun i hi => by
        have h1 := HH.out.prod_le (j + 1)
        rw [HPS.out, hN] at h1
        have h2 : N * p ^ i ≤ N * p ^ (q + 1) := Nat.mul_le_mul_left _ (Nat.pow_le_pow_right (by omega) hi)
        exact len23 (Nat.le_trans h2 h1) (by omega))
      rw [hN] at HPS HO ⊢
      rw [hp] at hpr HP
      have HO0 : Hid (Own wr w.heap.size 2 1 E (natL (N * p ^ 0)).length ec (ints (natL (N * p ^ 0)))) := Lib.hid (by rw [Nat.pow_zero, Nat.mul_one]; exact HO.out)
      have HE1 : Hid ((natL N).length = (natL (N * p ^ 0)).length) := Lib.hid (by rw [Nat.pow_zero, Nat.mul_one])
      clear hv hp hN HO hdr
      subst hAE
      go_upto_region 8 with fail
      go_loopw [4, 7] (fun s4 s7 wr => ∃ (i : Nat) (E : Option Addr) (ec : Nat), i ≤ q + 1 ∧ s7 = .int .i64 (i : Int) ∧ s4 = .slice E (natL (N * p ^ i)).length ec ∧ Hid (Own wr w.heap.size 2 1 E (natL (N * p ^ i)).length ec (ints (natL (N * p ^ i)))) ∧ Below w.heap.size w wr) (fun _ s7 _ => q + 1 - (intOf s7).toNat)
      case atStart => exact ⟨0, E, ec, Nat.zero_le _, rfl, by rw [← HE1.out], HO0, hz⟩
      case round =>
        obtain ⟨i, E, ec, hi, rfl, rfl, HO, hz⟩ := hrel
        clear HO0
        by_cases hle : i ≤ q
        · have k1 : (i : Int) ≤ (q : Int) := by omega
          have wi : IntKind.i64.wrap ((i : Int) + 1) = (i : Int) + 1 := IntWalk.i64_in _ (by omega)
          have HLL := Lib.hid (lit_nat wr (v := p) (by omega) (by omega))
          have HLB : Hid ((natL p).length ≤ 3) := Lib.hid (small2 (by omega))
          have HLN := Lib.hid (HNB.out i hi)
          have HLM := Lib.hid (HNB.out (i + 1) (by omega))
          have HME : Hid (N * p ^ (i + 1) = N * p ^ i * p) := Lib.hid (by rw [Nat.pow_succ, Nat.mul_assoc])
          have y0 : Below wr.heap.size wr (wr.alloc (.cells #[.int .i64 (p : Int)] 2)) := (Below.refl _ _).alloc (Nat.le_refl _) _
          have HOr : Hid (SI (wr.alloc (.cells #[.int .i64 (p : Int)] 2)) E (natL (N * p ^ i)).length (natL (N * p ^ i))) := Lib.hid (HO.out.rd.below y0)
          obtain ⟨M, hM⟩ : ∃ M, N * p ^ i = M := ⟨_, rfl⟩
          rw [hM] at HO HLN HME HOr ⊢
          rw [HME.out] at HLM
          clear hM
          go_upto_region 10 with fail
          go_wp2_with fail
          refine (HP.out wr (by omega)).mono ?_
          rintro e w' ⟨rfl, rfl⟩
          go_wp2_with fail
          refine (multiply_any E _ ec M _ 1 1 p _ HOr.out HLL.out (by have := HLN.out; omega) (by omega)).mono ?_
          rintro e v2 ⟨A2, c2, rfl, o2, z2⟩
          have y2 : Below wr.heap.size wr v2 := y0.trans (z2.mono y0.size)
          have yw : Below w.heap.size w v2 := hz.trans (y2.mono hz.size)
          have HO4 : Hid (Own v2 w.heap.size 2 1 A2 (natL (M * p)).length c2 (ints (natL (M * p)))) := Lib.hid (o2.mono (by have := y0.size; have := hz.size; omega))
          have i40 : ¬ (40 : Int) < ((natL (M * p)).length : Int) := by have := HLM.out; omega
          clear o2 z2 y2
          go_wp2_with fail
          go_roundw
          case rel => exact ⟨i + 1, A2, c2, by omega, by go_num, by rw [HME.out], Lib.hid (by rw [HME.out]; exact HO4.out), yw⟩
          case measure => (simp [intOf] <;> omega)
        · have k1 : ¬ (i : Int) ≤ (q : Int) := by omega
          have HEI : Hid (N * p ^ i = prodP 0 (ws.take (j + 1))) := Lib.hid (by rw [HPS.out, show i = q + 1 by omega])
          rw [HEI.out] at HO ⊢
          go_wp2_with fail
          go_roundw
          case rel => exact ⟨j + 1, E, ec, by omega, by go_num, rfl, HO, hz⟩
          case measure => (simp [intOf] <;> omega)
    · obtain rfl : j = n := by omega
      have i1 : ¬ (j : Int) < (j : Int) := by omega
      have HEN : Hid (ws.take j = ws) := Lib.hid (List.take_of_length_le (by rw [HXL.out]; exact Nat.le_refl _))
      have ho := HO.out
      rw [HEN.out] at ho ⊢
      go_wp2_with fail
      exact bodyPost_ret (v := .tuple #[.slice E (natL (prodP 0 ws)).length ec, .int .i64 0]) (by simp [results, Try.results40, go_sem]) rfl ⟨E, ec, rfl, ho, hz⟩
end Go.Proofs.Ytpleclmlcojkdaa

/-
  Contract of impl's PrimeList.
-/
namespace Go.Proofs.Ytpleclmlcojkdaa
open Go.RowKit

theorem SI.blk_lt {w : World} {A : Option Addr} {n v : Nat} (h : SI w A n (natL v)) (hv : 0 < v) : ∀ g, blk A = some g → g < w.heap.size := fun g hg => by
  have hn : 0 < n := by
    rcases Nat.eq_zero_or_pos n with h0 | h0
    · exact absurd ((natL_nil_iff v).1 (List.length_eq_zero_iff.1 (h.len.trans h0))) (by omega)
    · exact h0
  obtain ⟨b, o, rfl, hb, _⟩ := h.at_ hn
  have : b = g := by simpa [blk] using hg
  omega
theorem prodP_ge {es : List Int} {k : Nat} (h : k + 1 + es.length ≤ 9) (e : Int) : 2 ≤ prodP k (e :: es) := by
  rw [prodP]
  have h1 := (primeT_range k (by omega)).1
  have h2 := prodP_pos es (k + 1) h
  have h3 : primeT.getD k 0 ^ 1 ≤ primeT.getD k 0 ^ (e.toNat + 1) := Nat.pow_le_pow_right (by omega) (by omega)
  rw [Nat.pow_one] at h3
  have h4 : primeT.getD k 0 ^ (e.toNat + 1) * 1 ≤ primeT.getD k 0 ^ (e.toNat + 1) * prodP (k + 1) es := Nat.mul_le_mul_left _ h2
  omega
theorem prodP_drop_le : ∀ (es : List Int) (k j : Nat), k + es.length ≤ 9 → j ≤ es.length → prodP (k + j) (es.drop j) ≤ prodP k es
  | es, k, 0, _, _ => Nat.le_refl _
  | [], k, j + 1, _, hj => by simp at hj
  | e :: es, k, j + 1, h, hj => by
    rw [List.length_cons] at h hj
    have ih := prodP_drop_le es (k + 1) j (by omega) (by omega)
    rw [List.drop_succ_cons, show k + (j + 1) = k + 1 + j by omega]
    refine Nat.le_trans ih ?_
    rw [prodP]
    exact Nat.le_mul_of_pos_left _ (Nat.pow_pos (by have := (primeT_range k (by omega)).1; omega))
set_option maxRecDepth 100000 in
set_option maxHeartbeats 4000000 in
theorem PrimeList_any {L : Nat} {ws : List Int} (h : ShortW L ws) (A : Option Addr) (n c : Nat) (w : World) (hx : SI w A n (natL (prodP 0 ws))) :
    Calls Try.prog 41 #[.slice A n c] w (NewIOk w ws) := by
  have hl9 := h.len
  have hpos0 : 0 < prodP 0 ws := prodP_pos ws 0 (by omega)
  have hlen : ∀ j, j ≤ ws.length → (natL (prodP j (ws.drop j))).length ≤ 10 := fun j hj => by
    have h1 := prodP_drop_le ws 0 j (by omega) hj
    rw [Nat.zero_add] at h1
    have h2 := h.prod_le ws.length
    rw [List.take_length] at h2
    exact len23 (Nat.le_trans h1 h2) (by omega)
  have hn10 : n ≤ 10 := by have h1 := hlen 0 (Nat.zero_le _); rw [List.drop_zero] at h1; have := hx.len; omega
  have HI := Lib.hid (isNatural_any A n c _ w hx (by omega))
  rw [show decide (n ≤ 40) = true from decide_eq_true (by omega)] at HI
  have HH := Lib.hid h
  have HX := Lib.hid hx
  have HLEN := Lib.hid hlen
  have hn0 : ((n : Int) == 0) = false := by
    have h1 := hx.len
    rcases Nat.eq_zero_or_pos n with h | h
    · exact absurd ((natL_nil_iff _).1 (List.length_eq_zero_iff.1 (h1.trans h))) (by omega)
    · simp; omega
  have HBA : Hid (∀ g, blk A = some g → g < w.heap.size) := Lib.hid (hx.blk_lt hpos0)
  obtain ⟨m, hm⟩ : ∃ m, m = ws.length := ⟨_, rfl⟩
  have HM := Lib.hid hm
  have HL1 : Hid ((natL 1).length = 1) := Lib.hid (by rw [natL_one]; rfl)
  have hm9 : m ≤ 9 := by omega
  clear h hx hm hlen hpos0 hl9
  go_enter Try.func41, Try.ntmps41
  go_wp2_with fail
  refine HI.out.mono ?_
  rintro e w' ⟨rfl, rfl⟩
  obtain ⟨W1, hW_⟩ : ∃ W_, W_ = w.alloc (.cells #[] 2) := ⟨_, rfl⟩
  have b1 : Blk W1 w.heap.size 2 #[] := by rw [hW_]; exact Blk.new w _ _
  have z1 : Below w.heap.size w W1 := by rw [hW_]; exact (Below.refl _ _).alloc (Nat.le_refl _) _
  have HW1 := Lib.hid hW_
  clear hW_
  have HO1 : Hid (Own W1 w.heap.size 2 1 (some ⟨w.heap.size, 0, none⟩) (ws.take 0).length 0 (ints (ws.take 0))) := Lib.hid (by
    rw [List.take_zero, HW1.out]; exact Own.lit0 w _ 1)
  have HAP0 : Hid (∀ g, blk (some (⟨w.heap.size, 0, none⟩ : Addr)) = some g → blk A ≠ some g) := Lib.hid (fun g h1 h2 => by
    have h3 := HBA.out g h2
    have h4 : w.heap.size = g := by simpa [blk] using h1
    omega)
  have HX1 := Lib.hid (show SI W1 A n (natL (prodP 0 (ws.drop 0))) from HX.out.below z1)
  clear b1
  go_upto_region 6 with fail
  rw [← HW1.out]
  clear HW1
  go_loopw [0, 4] (fun s0 s4 wr => ∃ (j : Nat) (E : Option Addr) (ec : Nat) (R : Option Addr) (rn rc : Nat), j ≤ m ∧ s0 = .slice R rn rc ∧ s4 = .slice E (ws.take j).length ec ∧ Hid (Own wr w.heap.size 2 1 E (ws.take j).length ec (ints (ws.take j))) ∧ Hid (SI wr R rn (natL (prodP j (ws.drop j)))) ∧ Hid (∀ g, blk E = some g → blk R ≠ some g) ∧ Below w.heap.size w wr) (fun _ s4 _ => match s4 with | .slice _ k _ => m - k | _ => 0)
  case atStart => exact ⟨0, _, 0, A, n, c, Nat.zero_le _, rfl, rfl, HO1, HX1, HAP0, z1⟩
  case round =>
    obtain ⟨j, E, ec, R, rn, rc, hj, rfl, rfl, HO, HR, HAP, hz⟩ := hrel
    clear HO1 HX1 HAP0 z1
    have hrn : rn ≤ 10 := by have h1 := HR.out.len; have h2 := HLEN.out j (by rw [← HM.out]; exact hj); omega
    have HTL : Hid ((ws.take j).length = j) := Lib.hid (by rw [List.length_take, ← HM.out]; omega)
    rw [HTL.out] at HO ⊢
    by_cases hlt : j < m
    · have hjw : j < ws.length := by rw [← HM.out]; exact hlt
      obtain ⟨v, hv⟩ : ∃ v, ws[j] = v := ⟨_, rfl⟩
      have hdr := HH.out.mem4 _ (List.getElem_mem hjw)
      have HTK : Hid (ws.take (j + 1) = ws.take j ++ [v]) := Lib.hid (by rw [List.take_succ_eq_append_getElem hjw, hv])
      have HDK : Hid (ws.drop j = v :: ws.drop (j + 1)) := Lib.hid (by rw [← hv]; exact List.drop_eq_getElem_cons hjw)
      rw [hv] at hdr
      obtain ⟨q, rfl⟩ : ∃ q : Nat, v = (q : Int) := ⟨v.toNat, by omega⟩
      have hq : q ≤ 3 := by omega
      have hsz : j + 1 + (ws.drop (j + 1)).length ≤ 9 := by rw [List.length_drop, ← HM.out]; omega
      have hge := prodP_ge hsz (q : Int)
      have hmpos := prodP_pos (ws.drop (j + 1)) (j + 1) hsz
      have hnd := not_div_later hsz
      have HPA := Lib.hid (primeAt_any j)
      have hpr := primeT_range j (by omega)
      have HPE : Hid (prodP j (ws.drop j) = primeT.getD j 0 ^ (q + 1) * prodP (j + 1) (ws.drop (j + 1))) := Lib.hid (by rw [HDK.out, prodP, Int.toNat_natCast])
      rw [← HDK.out, HPE.out] at hge
      rw [HPE.out] at HR
      obtain ⟨M, hM⟩ : ∃ M, prodP (j + 1) (ws.drop (j + 1)) = M := ⟨_, rfl⟩
      have HME := Lib.hid hM
      obtain ⟨p, hp⟩ : ∃ p, primeT.getD j 0 = p := ⟨_, rfl⟩
      rw [hM, hp] at HR hge
      rw [hM, hp] at hnd
      rw [hM] at hmpos
      rw [hp] at hpr HPA
      obtain ⟨K, hK⟩ : ∃ K, K = q + 1 := ⟨_, rfl⟩
      have hK4 : K ≤ 4 ∧ 1 ≤ K := by omega
      rw [← hK] at HR hge
      have HVV := Lib.hid (ValuationOf_any (w := wr) R rn rc p K M)
      obtain ⟨V, hV⟩ : ∃ V, p ^ K * M = V := ⟨_, rfl⟩
      have hcm : cmpF V 1 = 1 := by rw [hV] at hge; unfold cmpF; rw [if_neg (by omega), if_neg (by omega)]
      have i24 : ((j : Int) == 24) = false := by simp; omega
      have wK : IntKind.i64.wrap ((K : Int) - 1) = (q : Int) := by rw [show (K : Int) - 1 = (q : Int) by omega]; exact IntWalk.i64_in _ (by omega)
      have K0 : ((K : Int) == 0) = false := by simp; omega
      have HKQ := Lib.hid hK
      have HHV := Lib.hid hV
      have HND := Lib.hid hnd
      have HRV : Hid (SI wr R rn (natL V)) := Lib.hid (by rw [← hV]; exact HR.out)
      have HRlt : Hid (∀ g, blk R = some g → g < wr.heap.size) := Lib.hid (HRV.out.blk_lt (by rw [← hV]; exact Nat.mul_pos (Nat.pow_pos (by omega)) hmpos))
      clear hv hdr hsz hge hM hp hK hV hnd HR
      go_wp2_with fail
      refine (one_nat wr).mono ?_
      rintro e V1 ⟨B1, d1, rfl, p1, x1⟩
      go_wp2_with fail
      refine (compare_any R rn rc V B1 _ d1 1 V1 (HRV.out.below x1) p1.rd (by omega) (by have := HL1.out; omega)).mono ?_
      rintro e w' ⟨rfl, k1, rfl⟩
      rw [hcm]
      have x2 : Below wr.heap.size wr (V1.drewN k1) := below_drewN x1 k1
      generalize V1.drewN k1 = V2 at *
      clear p1 x1 hcm
      go_wp2_with fail
      refine (sizeI_any E j ec V2 (by omega)).mono ?_
      rintro e w' ⟨rfl, rfl⟩
      go_wp2_with fail
      refine (HPA.out V2 (by omega)).mono ?_
      rintro e w' ⟨rfl, rfl⟩
      go_wp2_with fail
      refine (ValuationOf_any R rn rc p K M V2 hpr.1 hpr.2 hmpos HND.out (by rw [HHV.out]; exact HRV.out.below x2) (by omega) (by omega)).mono ?_
      rintro e V3 ⟨rfl, x3⟩
      have x4 : Below wr.heap.size wr V3 := x2.trans (x3.mono x2.size)
      have hz3 := hz.trans (x4.mono hz.size)
      have ho := HO.out.below x4
      have HR3 := Lib.hid (show SI V3 R rn (natL V) from HRV.out.below x4)
      have hTl := HTL.out
      clear x2 x3
      go_wp2_with (at_builtin; refine wpList_append_Own rfl (.tmp 33) (.tmp 36) rfl elI (lo := w.heap.size) rfl (ho.alloc _) rfl (Rd.new1 V3 _ _) (ints_one [(q : Int)]) (by omega) (by simp only [maxLen]; omega) (by have := hz3.size; simp; omega) ?_; intro A3 c3 w3 ho3 hg3 hk3)
      have HO3 : Hid (Own w3 w.heap.size 2 1 A3 (j + 1) c3 (ints (ws.take (j + 1)))) := Lib.hid (by
        rw [HTK.out]; simpa [ints] using ho3)
      have HR4 : Hid (SI w3 R rn (natL (p ^ (K - 0) * M))) := Lib.hid (by
        rw [Nat.sub_zero, HHV.out]
        exact Rd.grown (Rd.alloc HR3.out _) hg3 HAP.out)
      have hz4 := (ho.alloc (.cells #[.int .i64 (q : Int)] 2)).below_of (hz3.alloc hz3.size _) hg3 (by have := hz3.size; simp; omega)
      have HAP4 : Hid (∀ g, blk A3 = some g → blk R ≠ some g) := Lib.hid (fun g h1 h2 => by
        rcases hk3.1 with h | h
        · exact HAP.out g (h.symm.trans h1) h2
        · have h3 := HRlt.out g h2
          have h5 := x4.size
          rw [h1] at h
          have h4 := Option.some.inj h
          simp at h4; omega)
      have HA3 : Hid (∀ g, blk A3 = some g → g < w3.heap.size) := Lib.hid (fun g h => ho3.blk_lt g h)
      have HE8 : Hid (j + 1 = (ws.take (j + 1)).length) := Lib.hid (by rw [HTK.out, List.length_append, HTL.out]; rfl)
      have hz0 : Below w3.heap.size w3 w3 := Below.refl _ _
      clear ho3 hg3 hk3 ho hTl x4 hz3
      obtain ⟨J, hJ⟩ : ∃ J, j + 1 = J := ⟨_, rfl⟩
      have HJ := Lib.hid hJ
      rw [hJ] at HO3 HE8 ⊢
      clear hJ
      go_upto_region 14 with fail
      go_loopw [0, 6] (fun s0 s6 wr => ∃ (i : Nat) (R : Option Addr) (rn rc : Nat), i ≤ K ∧ s6 = .int .i64 ((K - i : Nat) : Int) ∧ s0 = .slice R rn rc ∧ Hid (SI wr R rn (natL (p ^ (K - i) * M))) ∧ Hid (∀ g, blk A3 = some g → blk R ≠ some g) ∧ rn ≤ 10 ∧ Below w3.heap.size w3 wr) (fun _ s6 _ => (intOf s6).toNat)
      case atStart => exact ⟨0, R, rn, rc, Nat.zero_le _, rfl, rfl, HR4, HAP4, hrn, hz0⟩
      case round =>
        obtain ⟨i, R, rn, rc, hi, rfl, rfl, HR, HAPi, hrn, hzi⟩ := hrel
        clear HR4 HAP4 hz0 HR3
        by_cases hlt : i < K
        · obtain ⟨t, ht⟩ : ∃ t, t = K - i := ⟨_, rfl⟩
          have i1 : (0 : Int) < (t : Int) := by omega
          have wt : IntKind.i64.wrap ((t : Int) - 1) = ((K - (i + 1) : Nat) : Int) := by rw [show (t : Int) - 1 = ((K - (i + 1) : Nat) : Int) by omega]; exact IntWalk.i64_in _ (by omega)
          have hdm : K - (i + 1) < t := by omega
          have HD := Lib.hid (divideSmall_any R rn rc (p ^ (K - i) * M) p wr HR.out (by omega) (by omega) (by omega))
          have HQ1 : Hid (p ^ (K - i) * M / p = p ^ (K - (i + 1)) * M) := Lib.hid (by rw [pow_split hlt]; exact Nat.mul_div_cancel_left _ (by omega))
          have HLQ : Hid ((natL (p ^ (K - (i + 1)) * M)).length ≤ 10) := Lib.hid (by
            have h1 : p ^ (K - (i + 1)) ≤ p ^ (K - i) := Nat.pow_le_pow_right (by omega) (by omega)
            have h2 := natL_len_mono (Nat.mul_le_mul_right M h1)
            have h3 := HR.out.len
            omega)
          rw [HQ1.out] at HD
          rw [← ht]
          clear ht
          go_wp2_with fail
          refine HD.out.mono ?_
          rintro e W2 ⟨A2, c2, rfl, o2, z2⟩
          have hz2 := hzi.trans (z2.mono hzi.size)
          have HR2 := Lib.hid (show SI W2 A2 _ (natL (p ^ (K - (i + 1)) * M)) from o2.rd)
          have HAP2 : Hid (∀ g, blk A3 = some g → blk A2 ≠ some g) := Lib.hid (fun g h1 h2 => by
            have h3 := HA3.out g h1
            have h4 := o2.blk_ge g h2
            have h5 := hzi.size
            omega)
          clear o2 z2
          go_wp2_with fail
          go_roundw
          case rel => exact ⟨i + 1, A2, _, c2, by omega, rfl, rfl, HR2, HAP2, HLQ.out, hz2⟩
          case measure => (simp [intOf]; omega)
        · obtain rfl : i = K := by omega
          have HKK : Hid (p ^ (i - i) * M = prodP (j + 1) (ws.drop (j + 1))) := Lib.hid (by rw [Nat.sub_self, Nat.pow_zero, Nat.one_mul, HME.out])
          rw [HKK.out] at HR
          have i1 : ¬ (0 : Int) < ((i - i : Nat) : Int) := by omega
          have hz5 := (hz4.trans (hzi.mono hz4.size))
          have HO5 := Lib.hid (HO3.out.below hzi)
          have HMS : Hid (m - J < m - j) := Lib.hid (by have := HJ.out; omega)
          have HE8' : Hid (J = (ws.take (j + 1)).length) := Lib.hid (by rw [HJ.out]; exact HE8.out)
          clear HAP HO
          go_wp2_with fail
          go_roundw
          case rel => exact ⟨j + 1, A3, c3, R, rn, rc, by omega, rfl, by rw [← HE8'.out], Lib.hid (by rw [← HE8'.out, HJ.out]; exact HO5.out), HR, HAPi, hz5⟩
          case measure => exact HMS.out
    · obtain rfl : j = m := by omega
      have HEN : Hid (ws.take j = ws) := Lib.hid (List.take_of_length_le (by rw [← HM.out]; exact Nat.le_refl _))
      have HEP : Hid (prodP j (ws.drop j) = 1) := Lib.hid (by rw [List.drop_eq_nil_of_le (by rw [← HM.out]; exact Nat.le_refl _)]; rfl)
      have ho := HO.out
      have HLJ : Hid (j = ws.length) := HM
      rw [HEN.out] at ho
      rw [HEP.out] at HR
      have hcm : cmpF 1 1 = 0 := rfl
      go_wp2_with fail
      refine (one_nat wr).mono ?_
      rintro e V1 ⟨B1, d1, rfl, p1, x1⟩
      go_wp2_with fail
      refine (compare_any R rn rc 1 B1 _ d1 1 V1 (HR.out.below x1) p1.rd (by omega) (by have := HL1.out; omega)).mono ?_
      rintro e w' ⟨rfl, k1, rfl⟩
      rw [hcm]
      have x2 : Below wr.heap.size wr (V1.drewN k1) := below_drewN x1 k1
      generalize V1.drewN k1 = V2 at *
      have hz2 := hz.trans (x2.mono hz.size)
      have ho2 := ho.below x2
      have HR9 : Hid (NewIOk w ws (.returned (.tuple #[.slice E j ec, .int .i64 0])) V2) := Lib.hid ⟨E, ec, by rw [← HLJ.out], by rw [← HLJ.out]; exact ho2, hz2⟩
      clear p1 x1 ho ho2
      go_wp2_with fail
      exact bodyPost_ret (v := .tuple #[.slice E j ec, .int .i64 0]) (by simp [results, Try.results41, go_sem]) rfl HR9.out
end Go.Proofs.Ytpleclmlcojkdaa

/-
  Contracts of the reference's l02Is, l02By, l02Digits.
-/
namespace Go.Proofs.Ytpleclmlcojkdaa
open Go.RowKit

set_option maxRecDepth 100000 in
set_option maxHeartbeats 4000000 in
theorem l02By_any (A : Option Addr) (n c x : Nat) (D : Nat) (w : World) (hx : SI w A n (natL x)) (hn : n ≤ 1000) (h1 : 1 ≤ D) (h2 : D ≤ 1000000) :
    Calls Try.prog 182 #[.slice A n c, .int .i64 (D : Int)] w (NewN2 w (x / D) ((x % D : Nat) : Int)) := by
  have hlx := hx.len
  have HLX := Lib.hid hlx
  have wn : IntKind.i64.wrap ((n : Int) - 1) = (n : Int) - 1 := IntWalk.i64_in _ (by omega)
  have d0 : ((D : Int) == 0) = false := by simp; omega
  go_enter Try.func182, Try.ntmps182
  go_upto_region 2 with (at_make; refine wpList_make_Own rfl (.tmp 10) (.tmp 10) rfl elI (n := n) (lo := w.heap.size) rfl rfl (by omega) (by unfold maxLen; omega) (Nat.le_refl _) ?_; intro w2 ho2 hb2 hs2)
  rw [made_zeros] at ho2
  generalize hD : (some ⟨w.heap.size, 0, none⟩ : Option Addr) = B at *
  clear hD hs2
  go_upto_region 4 with fail
  have HD0 : Hid (DivS (natL x) D n (List.replicate n 0) 0) := Lib.hid (by have := DivS.start (a := natL x) (d := D) (by omega); rw [hlx] at this; exact this)
  clear wn hlx
  go_loopw [7, 8] (fun r s wr => ∃ (j : Nat) (out : List Int) (q : Int), j ≤ n ∧ s = .int .i64 ((j : Int) - 1) ∧ r = .int .i64 q ∧ Own wr w.heap.size 2 1 B n n (ints out) ∧ Below w.heap.size w wr ∧ Hid (DivS (natL x) D j out q)) (fun _ s _ => (intOf s + 1).toNat)
  case atStart => exact ⟨n, _, 0, Nat.le_refl _, rfl, rfl, ho2, hb2, HD0⟩
  case round =>
    obtain ⟨j, out, q, hj, rfl, rfl, ho, hz, HS⟩ := hrel
    clear ho2 hb2 HD0
    have hol : out.length = n := (show SI wr B n out from ho.rd).len
    rcases Nat.eq_zero_or_pos j with h0 | h0
    · subst h0
      have i1 : ¬ (0 : Int) ≤ ((0 : Nat) : Int) - 1 := by omega
      have HE : Hid ((val out).toNat = x / D ∧ q = ((x % D : Nat) : Int)) := Lib.hid (by
        have h := HS.out.end_
        rw [val_natL] at h
        refine ⟨?_, ?_⟩
        · rw [h.1]; exact_mod_cast Int.toNat_natCast (x / D)
        · rw [h.2]; rfl)
      have HL := Lib.hid HS.out.lim
      have HLO := Lib.hid hol
      go_wp2_with fail
      refine (l02Trim_any B n n w.heap.size out wr ho HL.out (by omega)).mono ?_
      rw [HE.out.1]
      rintro e w' ⟨rfl, ho5, rfl⟩
      go_wp2_with fail
      exact bodyPost_ret (v := .tuple #[.slice B (natL (x / D)).length n, .int .i64 q]) (by simp [results, Try.results182, go_sem]) rfl ⟨B, n, by rw [HE.out.2], ho5, hz⟩
    · obtain ⟨i, rfl⟩ : ∃ i, j = i + 1 := ⟨j - 1, by omega⟩
      have ei : ((i + 1 : Nat) : Int) - 1 = (i : Int) := by omega
      rw [ei]
      have i1 : (0 : Int) ≤ (i : Int) := by omega
      have i2 : (i : Int) < (n : Int) := by omega
      have hq0 := HS.out.r0
      have hq1 := HS.out.r1
      obtain ⟨b, off, rfl, _, hcb⟩ := (hx.below hz).at_ (k := i) (by omega)
      obtain ⟨g, o, rfl, hgl, hglt, hca, hfa⟩ := ho.at_ (k := i) (by rw [length_ints]; omega)
      have hli := (lims_natL x).at_ (k := i) (by rw [HLX.out]; omega)
      have HS2 := HS.out.step (lims_natL x) (show i < (natL x).length by rw [HLX.out]; omega)
      obtain ⟨y, hy⟩ : ∃ y, (natL x)[i]'(by rw [HLX.out]; omega) = y := ⟨_, rfl⟩
      rw [hy] at hcb hli HS2
      have HS2 := Lib.hid HS2
      obtain ⟨t, ht⟩ : ∃ t, q * 1000000 + y = t := ⟨_, rfl⟩
      rw [ht] at HS2
      have wm : IntKind.i64.wrap (q * 1000000) = q * 1000000 := IntWalk.i64_in _ (by omega)
      have wt : IntKind.i64.wrap (q * 1000000 + y) = t := by rw [ht]; exact IntWalk.i64_in _ (by omega)
      have ht0 : 0 ≤ t := by omega
      have ht1 : t ≤ 1000000000000 := by omega
      have hq2 : 0 ≤ t / D ∧ t / D ≤ t := ⟨Int.ediv_nonneg ht0 (by omega), Int.ediv_le_self _ ht0⟩
      have hm2 : 0 ≤ t % D ∧ t % D < D := ⟨Int.emod_nonneg _ (by omega), Int.emod_lt_of_pos _ (by omega)⟩
      have wq : IntKind.i64.wrap (Int.tdiv t D) = t / D := by rw [Int.tdiv_eq_ediv_of_nonneg ht0]; exact IntWalk.i64_in _ (by omega)
      have wr' : IntKind.i64.wrap (Int.tmod t D) = t % D := by rw [Int.tmod_eq_emod_of_nonneg ht0]; exact IntWalk.i64_in _ (by omega)
      have wi : IntKind.i64.wrap ((i : Int) - 1) = (i : Int) - 1 := IntWalk.i64_in _ (by omega)
      obtain ⟨u, hu⟩ : ∃ u, t / D = u := ⟨_, rfl⟩
      obtain ⟨v, hv⟩ : ∃ v, t % D = v := ⟨_, rfl⟩
      rw [hu] at wq HS2
      rw [hv] at wr' HS2
      have ho5 := ho.set_ (k := i) (by rw [length_ints]; omega) (.int .i64 u)
      rw [ints_set] at ho5
      have hz5 := hz.setCell (p := ⟨g, o + i, none⟩) hgl (.int .i64 u)
      have HVV := Lib.hid hv
      clear hy ht hu hv hq2 hm2 hli HS
      go_wp2_with fail
      go_roundw
      case rel => exact ⟨i, out.set i u, v, by omega, by go_num, by first | rfl | rw [HVV.out], ho5, hz5, HS2⟩
      case measure => simp [intOf]
set_option maxRecDepth 100000 in
set_option maxHeartbeats 4000000 in
theorem l02Digits_any (A : Option Addr) (n c x b : Nat) (w : World) (hx : SI w A n (natL x)) (hn : n ≤ 40) (hb : b ≤ 999998) (hl : (digB b x).length ≤ 1000) :
    Calls Try.prog 128 #[.slice A n c, .int .i64 ((b + 2 : Nat) : Int)] w (NewI w (digB b x)) := by
  have HX := Lib.hid hx
  have HLX := Lib.hid hx.len
  obtain ⟨D, hD⟩ : ∃ D, D = b + 2 := ⟨_, rfl⟩
  have HD := Lib.hid hD
  have hD2 : 2 ≤ D ∧ D ≤ 1000000 := by omega
  have HL := Lib.hid hl
  rw [← hD]
  clear hD hx hl
  obtain ⟨W1, hW_⟩ : ∃ W_, W_ = w.alloc (.cells #[] 2) := ⟨_, rfl⟩
  have b1 : Blk W1 w.heap.size 2 #[] := by rw [hW_]; exact Blk.new w _ _
  have z1 : Below w.heap.size w W1 := by rw [hW_]; exact (Below.refl _ _).alloc (Nat.le_refl _) _
  have HW1 := Lib.hid hW_
  clear hW_
  have HO1 : Hid (Own W1 w.heap.size 2 1 (some ⟨w.heap.size, 0, none⟩) ([] : List Int).length 0 (ints [])) := Lib.hid (by rw [HW1.out]; exact Own.lit0 w _ 1)
  clear b1
  go_enter Try.func128, Try.ntmps128
  go_upto_region 2 with fail
  rw [← HW1.out]
  clear HW1
  go_loopw [0, 5] (fun s0 s6 wr => ∃ (q : Nat) (out : List Int) (E : Option Addr) (ec : Nat) (R : Option Addr) (rn rc : Nat), s0 = .slice R rn rc ∧ s6 = .slice E out.length ec ∧ Hid (Own wr w.heap.size 2 1 E out.length ec (ints out)) ∧ Hid (digB b x = out ++ digB b q) ∧ Hid ((R = A ∧ rn = n ∧ q = x) ∨ Own wr w.heap.size 2 1 R rn rc (ints (natL q))) ∧ Below w.heap.size w wr ∧ out.length ≤ 1000 ∧ Hid (rn = (natL q).length) ∧ q ≤ x) (fun s0 s6 wr => match s6 with | .slice _ k _ => 1001 - k | _ => 0)
  case atStart => exact ⟨x, [], _, 0, A, n, c, rfl, rfl, HO1, Lib.hid (by simp), Lib.hid (.inl ⟨rfl, rfl, rfl⟩), z1, by simp, Lib.hid HLX.out.symm, Nat.le_refl _⟩
  case round =>
    obtain ⟨q, out, E, ec, R, rn, rc, rfl, rfl, HO, HE, HR, hz, hol, HRN, hqx⟩ := hrel
    clear HO1 z1
    have HRS : Hid (SI wr R rn (natL q)) := Lib.hid (by
      rcases HR.out with ⟨rfl, rfl, rfl⟩ | h
      · exact HX.out.below hz
      · exact h.rd)
    rcases Nat.eq_zero_or_pos q with h0 | h0
    · subst h0
      have HN : Hid (out = digB b x) := Lib.hid (by rw [HE.out, digB_zero]; simp)
      have hrn : rn = 0 := by rw [HRN.out, natL_zero]; rfl
      have ho := HO.out
      rw [HN.out] at ho ⊢
      subst hrn
      have i1 : ¬ (0 : Int) < ((0 : Nat) : Int) := by omega
      go_wp2_with fail
      go_ret
      exact ⟨E, ec, rfl, ho, hz⟩
    · have hrn : 0 < rn := by
        rw [HRN.out]
        rcases Nat.eq_zero_or_pos (natL q).length with h | h
        · exact absurd ((natL_nil_iff _).1 (List.length_eq_zero_iff.1 h)) (by omega)
        · exact h
      have i1 : (0 : Int) < (rn : Int) := by omega
      have HE2 : Hid (digB b x = (out ++ ([((q % D : Nat) : Int)] : List Int)) ++ digB b (q / D)) := Lib.hid (by rw [HE.out, digB_pos h0, HD.out]; simp)
      have hol2 : out.length + 1 ≤ 1000 := by have h := congrArg List.length HE2.out; have h2 := HL.out; simp at h; omega
      have hrn2 : rn ≤ 1000 := by
        have h1 := natL_len_mono hqx
        have h2 := HRN.out
        have h3 := HLX.out
        omega
      have huq : q / D ≤ x := Nat.le_trans (Nat.div_le_self _ _) hqx
      have ho := HO.out
      clear HR
      go_wp2_with fail
      refine (l02By_any R rn rc q D wr HRS.out hrn2 (by omega) hD2.2).mono ?_
      rintro e W2 ⟨A2, c2, rfl, o2, z2⟩
      have hz2 := hz.trans (z2.mono hz.size)
      have ho2 := ho.below z2
      have o2' := o2.mono (lo' := w.heap.size) hz.size
      have HAPT : Hid (∀ g, blk E = some g → blk A2 ≠ some g) := Lib.hid (fun g h1 h2 => by have := HO.out.blk_lt g h1; have := o2.blk_ge g h2; omega)
      obtain ⟨m, hm⟩ : ∃ m, m = q % D := ⟨_, rfl⟩
      obtain ⟨u, hu⟩ : ∃ u, u = q / D := ⟨_, rfl⟩
      rw [← hm, ← hu] at HE2
      rw [← hu] at huq
      rw [← hm]
      rw [← hu] at o2' ⊢
      clear hm hu o2 ho
      go_wp2_with (at_builtin; refine wpList_append_Own rfl (.tmp 18) (.tmp 20) rfl elI (lo := w.heap.size) rfl (ho2.alloc _) rfl (Rd.new1 W2 _ _) (ints_one [(m : Int)]) (by omega) (by simp only [maxLen]; omega) (by have := hz2.size; simp; omega) ?_; intro A3 c3 w3 ho3 hg3 hk3)
      have hz3 := (ho2.alloc (.cells #[.int .i64 (m : Int)] 2)).below_of (hz2.alloc hz2.size _) hg3 (by have := hz2.size; simp; omega)
      have HO3 : Hid (Own w3 w.heap.size 2 1 A3 (out ++ ([(m : Int)] : List Int)).length c3 (ints (out ++ ([(m : Int)] : List Int)))) := Lib.hid (by
        rw [List.length_append]; simpa [ints] using ho3)
      have HR3 : Hid (Own w3 w.heap.size 2 1 A2 (natL u).length c2 (ints (natL u))) := Lib.hid ((o2'.alloc _).grown hg3 HAPT.out)
      have hl8 : out.length + 1 = (out ++ ([(m : Int)] : List Int)).length := by simp
      have HM : Hid (1001 - (out ++ ([(m : Int)] : List Int)).length < 1001 - out.length) := Lib.hid (by simp; omega)
      rw [hl8]
      clear ho3 hg3 hk3 ho2 o2'
      go_wp2_with fail
      go_roundw
      case rel => exact ⟨u, out ++ ([(m : Int)] : List Int), A3, c3, A2, _, c2, rfl, rfl, HO3, HE2, Lib.hid (.inr HR3.out), hz3, by simp; omega, Lib.hid rfl, huq⟩
      case measure => exact HM.out
end Go.Proofs.Ytpleclmlcojkdaa

/-
  Contracts of the reference's smallest functions: l00In, l00Own.
-/
namespace Go.Proofs.Ytpleclmlcojkdaa
open Go.RowKit

set_option maxHeartbeats 400000 in
theorem l00In_any (n lo hi : Int) (w : World) :
    Calls Try.prog 104 #[.int .i64 n, .int .i64 lo, .int .i64 hi] w fun e w' => e = .returned (.bool (inB n lo hi)) ∧ w = w' := by
  by_cases h1 : lo ≤ n <;> by_cases h2 : n ≤ hi
  all_goals
    go_enter Try.func104, Try.ntmps104
    go_wp2
    go_ret
    exact ⟨ret_bool (by simp [inB]; omega), rfl⟩

theorem l00In_is {n lo hi : Int} {b : Bool} (h : inB n lo hi = b) (w : World) :
    Calls Try.prog 104 #[.int .i64 n, .int .i64 lo, .int .i64 hi] w fun e w' => e = .returned (.bool b) ∧ w = w' := h ▸ l00In_any n lo hi w

set_option maxHeartbeats 400000 in
theorem l00Own_any (A : Option Addr) (n c : Nat) (xs : List Int) (w : World) (hx : SI w A n xs) (hn : n ≤ 1048576) :
    Calls Try.prog 105 #[.slice A n c] w (NewI w xs) := by
  have HL := Lib.hid hx.len
  go_enter Try.func105, Try.ntmps105
  go_wp2_with (at_builtin; refine wpList_append_Own rfl (.tmp 3) (.tmp 4) rfl elI (lo := w.heap.size) rfl (Own.lit0 w _ 1) rfl (Rd.alloc hx _) (ints_one xs) (by omega) (by simp only [maxLen]; omega) (by simp) ?_; intro A2 c2 w2 ho2 hg2 _)
  go_ret
  have hbb := (Own.lit0 w 2 1).below_of ((Below.refl _ _).alloc (Nat.le_refl _) _) hg2 (by simp)
  simp only [List.nil_append] at ho2
  refine ⟨A2, c2, ?_, ?_, hbb⟩
  · rw [HL.out]; simp
  · rw [HL.out]; simpa using ho2

end Go.Proofs.Ytpleclmlcojkdaa
