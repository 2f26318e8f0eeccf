/-
  The walk of the law FnCollatz: it returns true, and nothing that was there before has turned.
-/
import Derived.Test.YthipbeggaeogcaaCollW
import Derived.Test.YthipbeggaeogcaaCollI
import Derived.Test.YthipbeggaeogcaaByts
namespace Go.Proofs.Ythipbeggaeogcaa
open Go.RowKit

set_option maxRecDepth 100000 in
set_option maxHeartbeats 8000000 in
theorem lawCollatz (A : Option Addr) (n c : Nat) (xs : List Int) (B : Option Addr) (m d : Nat) (ys : List Int) (w : World) (hx : SB w A n xs) (_hy : SB w B m ys) (hn : n ≤ 9223372036854775807) (hm : m ≤ 9223372036854775807) :
    Calls Try.prog 6 #[.slice A n c, .slice B m d] w fun e w' => e = .returned (.bool true) ∧ Below w.heap.size w w' := by
  cases hb : longB n m
  rotate_left
  · have HB := Lib.hid hb
    clear hb
    go_enter Try.func6, Try.ntmps6
    go_wp2_with (go_at_call 40; refine (r8Long_any _ _ _ _ _ _ _ hn hm).mono ?_; rw [HB.out]; rintro e w' ⟨rfl, rfl⟩)
    go_ret
    exact ⟨rfl, Below.refl _ _⟩
  have HB := Lib.hid hb
  clear hb
  have hr8 := r8AtF_range xs 0 30 hx.2
  have hr9 := hr8.2 (by decide)
  obtain ⟨k, hk⟩ : ∃ k : Nat, r8AtF xs 0 30 = (k : Int) := ⟨(r8AtF xs 0 30).toNat, by omega⟩
  have HK := Lib.hid hk
  rw [hk] at hr9
  have hk30 : k < 30 := by omega
  clear hr8 hr9 hk
  obtain ⟨nn, hnn⟩ : ∃ nn : Nat, nn = 1 + k := ⟨_, rfl⟩
  have hwr : IntKind.i64.wrap (1 + (k : Int)) = (nn : Int) := by rw [IntWalk.i64_in _ (by omega)]; omega
  have hlaw := Lib.hid (coll_law (n := nn) (by omega) (by omega))
  have hn1 : 1 ≤ nn := by omega
  have hn2 : nn ≤ 30 := by omega
  clear hnn
  go_enter Try.func6, Try.ntmps6
  go_wp2_with (first
    | (go_at_call 40; refine (r8Long_any _ _ _ _ _ _ _ hn hm).mono ?_; rw [HB.out]; rintro e w' ⟨rfl, rfl⟩)
    | (go_at_call 41; refine (r8At_any _ _ _ xs 0 30 _ hx hn (by omega) (by omega) (by omega)).mono ?_; rw [HK.out]; rintro e w' ⟨rfl, rfl⟩))
  refine (collNumbersI_any (nn : Int) 6000 _).mono ?_
  rintro e W1 ⟨A1, c1, rfl, o1, z1⟩
  rcases hlaw.out with ⟨he, h8⟩ | ⟨l, he, q1, q2, q3, q4, q5⟩
  · rw [he] at o1 ⊢
    have h9 : (8 : Int) < (nn : Int) := by omega
    go_wp2_with fail
    go_ret
    exact ⟨by simp, z1⟩
  · rw [he] at o1 ⊢
    dsimp only at o1 ⊢
    have Q1 := Lib.hid q1
    have Q2 := Lib.hid q2
    have Q3 := Lib.hid q3
    have Q4 := Lib.hid q4
    have HLen : Hid (l.length ≠ 0) := Lib.hid (by intro h; rw [List.eq_nil_of_length_eq_zero h] at q1; cases q1)
    have heq0 := Lib.hid he
    clear q1 q2 q3 q4 he
    obtain ⟨L, hL⟩ : ∃ L, l.length = L + 1 := ⟨l.length - 1, by have := HLen.out; omega⟩
    have HL := Lib.hid hL
    rw [hL] at o1 ⊢
    clear hL
    have si : SI W1 A1 (L + 1) l := by have := o1.rd; exact this
    obtain ⟨b, off, rfl, hbl, hc0⟩ := si.at0 (by omega)
    obtain ⟨b', off', he', _, hcl⟩ := si.at_ (k := L) (by omega)
    simp only [Option.some.injEq, Addr.mk.injEq, and_true] at he'
    obtain ⟨rfl, rfl⟩ := he'
    have e0 : l.headD 0 = (nn : Int) := by have := Q1.out; rw [List.head?_eq_getElem?] at this; simp [List.headD_eq_head?_getD, List.head?_eq_getElem?, this]
    have eL : l[L]'(by have := HL.out; omega) = 1 := by
      have := Q2.out
      rw [List.getLast?_eq_getElem?, HL.out, Nat.add_sub_cancel] at this
      exact (List.getElem?_eq_some_iff.1 this).2
    rw [e0] at hc0
    rw [eL] at hcl
    clear e0 eL
    have hLb : L + 1 ≤ 6001 := by have h2 := HL.out; omega
    have j5 : wrap64 (L : Int) = (L : Int) := IntWalk.wrap64_in _ (by omega)
    have j1 : (0 : Int) ≤ (L : Int) := by omega
    have j2 : ¬ (L : Int) + 1 = 0 := by omega
    have j3 : (L : Int) < (L : Int) + 1 := by omega
    have j4 : (0 : Int) < (L : Int) + 1 := by omega
    go_wp2_with fail
    clear hc0 hcl j5
    go_loop [8, 9] (fun i _ => ∃ k : Nat, 1 ≤ k ∧ k ≤ L + 1 ∧ i = .int .i64 (k : Int)) (fun i _ => L + 1 - (intOf i).toNat)
    case atStart => exact ⟨1, by omega, by omega, rfl⟩
    case round =>
      obtain ⟨k, hk1, hk2, rfl⟩ := hrel
      by_cases hlt : k < L + 1
      · have hk2 : (k : Int) < (L : Int) + 1 := by omega
        obtain ⟨b1, off1, he1, _, hcx⟩ := si.at_ (k := k - 1) (by omega)
        obtain ⟨b2, off2, he2, _, hcy⟩ := si.at_ (k := k) (by omega)
        simp only [Option.some.injEq, Addr.mk.injEq, and_true] at he1 he2
        obtain ⟨rfl, rfl⟩ := he1
        obtain ⟨rfl, rfl⟩ := he2
        obtain ⟨x, hx_⟩ : ∃ x, x = l[k - 1]'(by have := HL.out; omega) := ⟨_, rfl⟩
        obtain ⟨y, hy_⟩ : ∃ y, y = l[k]'(by have := HL.out; omega) := ⟨_, rfl⟩
        have hch := Q3.out (k - 1) x y (by rw [hx_]; exact List.getElem?_eq_getElem _) (by rw [hy_, show k - 1 + 1 = k from by omega]; exact List.getElem?_eq_getElem _)
        have hxr := Q4.out x (by rw [hx_]; exact List.getElem_mem _)
        rw [← hx_] at hcx
        rw [← hy_] at hcy
        clear hx_ hy_
        obtain ⟨p, rfl⟩ : ∃ p : Nat, x = (p : Int) := ⟨x.toNat, by omega⟩
        have i1 : (0 : Int) ≤ (k : Int) - 1 := by omega
        have i3 : (k : Int) - 1 < (L : Int) + 1 := by omega
        have i2 : ((k : Int) - 1).toNat = k - 1 := by omega
        have i4 : (0 : Int) ≤ (k : Int) := by omega
        by_cases hp : p % 2 = 1
        · have hy1 : y = (3 * (p : Int) + 1) / 2 := by rw [hch, if_pos (by omega)]
          have p1 : (p : Int).tmod 2 = 1 := by rw [Int.tmod_eq_emod_of_nonneg (by omega)]; omega
          have p2 : IntKind.i64.wrap (3 * (p : Int)) = 3 * (p : Int) := IntWalk.i64_in _ (by omega)
          have p3 : IntKind.i64.wrap (3 * (p : Int) + 1) = 3 * (p : Int) + 1 := IntWalk.i64_in _ (by omega)
          have p4 : (3 * (p : Int) + 1).tdiv 2 = y := by rw [hy1]; exact Int.tdiv_eq_ediv_of_nonneg (by omega)
          have hyr : 0 ≤ y ∧ y ≤ 2000 := by omega
          clear hch hy1
          go_upto_region 15 with fail
          clear i1 i2 i3 p1 p2 p3 hcx
          have p5 : wrap64 y = y := IntWalk.wrap64_in _ (by omega)
          go_wp2_with fail
          clear p4 p5
          exact ⟨⟨k + 1, by omega, by omega, by go_num⟩, by simp [intOf]; omega⟩
        · have hy1 : y = (p : Int) / 2 := by rw [hch, if_neg (by omega)]
          have p1 : (p : Int).tmod 2 = 0 := by rw [Int.tmod_eq_emod_of_nonneg (by omega)]; omega
          have p4 : (p : Int).tdiv 2 = y := by rw [hy1]; exact Int.tdiv_eq_ediv_of_nonneg (by omega)
          have hyr : 0 ≤ y ∧ y ≤ 2000 := by omega
          clear hch hy1
          go_upto_region 15 with fail
          clear i1 i2 i3 p1 hcx
          have p5 : wrap64 y = y := IntWalk.wrap64_in _ (by omega)
          go_wp2_with fail
          clear p4 p5
          exact ⟨⟨k + 1, by omega, by omega, by go_num⟩, by simp [intOf]; omega⟩
      · have hk9 : ¬ (k : Int) < (L : Int) + 1 := by omega
        go_wp2_with fail
        go_ret
        exact ⟨rfl, z1⟩
end Go.Proofs.Ythipbeggaeogcaa
