/-
  Contracts of the reference's functions on configurations: l05Head, l05At, l05Halts, l05Rest, l05Trim, l05Push.
-/
import Derived.Test.YthipbeggaeogcaaMachR
import Derived.Test.YthipbeggaeogcaaMachM
namespace Go.Proofs.Ythipbeggaeogcaa
open Go.RowKit

theorem lastI_reverse (ys : List Int) : ys.headD 0 = lastI ys.reverse := by
  unfold lastI; cases ys <;> simp

set_option maxHeartbeats 400000 in
theorem l05Head_any (f : Nat) (q : Int) (B : Option Addr) (m c : Nat) (C : Option Addr) (l d : Nat) (ys : List Int) (w : World) (hc : ConfAt w f q B m c C l d) (hy : SI w C l ys) (hl : l ≤ 1048576) :
    Calls Try.prog 208 #[.pointer (some ⟨f, 0, none⟩)] w fun e w' => e = .returned (.int .i64 (lastI ys.reverse)) ∧ w = w' := by
  obtain ⟨p0, p1, p2⟩ := hc
  have HL := Lib.hid hy.len
  have HR := Lib.hid (lastI_reverse ys)
  by_cases hn0 : l = 0
  · subst hn0
    have hx0 : ys = [] := List.eq_nil_of_length_eq_zero HL.out
    subst hx0
    go_enter Try.func208, Try.ntmps208
    go_wp2
    go_ret
    exact ⟨rfl, rfl⟩
  · obtain ⟨b, off, rfl, _, hc⟩ := hy.at0 (by omega)
    rw [HR.out] at hc
    have g0 : ((l : Int) == 0) = false := by simp; omega
    have i1 : (0 : Int) < (l : Int) := by omega
    go_enter Try.func208, Try.ntmps208
    go_wp2
    go_ret
    exact ⟨rfl, rfl⟩

set_option maxHeartbeats 400000 in
theorem l05At_any (g : Nat) (sy st : Int) (A : Option Addr) (n k : Nat) (f : Nat) (q : Int) (B : Option Addr) (m c : Nat) (C : Option Addr) (l d : Nat) (ys : List Int) (w : World) (hm : MachAt w g sy st A n k) (hc : ConfAt w f q B m c C l d) (hy : SI w C l ys) (hl : l ≤ 1048576)
    (h1 : 0 ≤ q * sy) (h2 : q * sy ≤ 1000000) (h3 : 0 ≤ lastI ys.reverse) (h4 : lastI ys.reverse ≤ 1000000) :
    Calls Try.prog 175 #[.pointer (some ⟨g, 0, none⟩), .pointer (some ⟨f, 0, none⟩)] w fun e w' => e = .returned (.int .i64 (atI sy q ys.reverse)) ∧ ∃ nq, w' = w.drewN nq := by
  have hc' := hc
  obtain ⟨p0, p1, p2⟩ := hc'
  obtain ⟨q0, q1, q2⟩ := hm
  have w1 : IntKind.i64.wrap (q * sy) = q * sy := IntWalk.i64_in _ (by omega)
  have w2 : IntKind.i64.wrap (q * sy + lastI ys.reverse) = q * sy + lastI ys.reverse := IntWalk.i64_in _ (by omega)
  go_enter Try.func175, Try.ntmps175
  go_wp2_with fail
  go_quiet ((go_at_call 208; exact quiet_left (l05Head_any _ _ _ _ _ _ _ _ ys _ (hc.drewN _) (hy.drewN _) hl)))
  clear w1 w2
  go_wp2_with fail
  go_ret
  exact ⟨rfl, _, rfl⟩

theorem isRuleB_r (r : R3) : isRuleB r = !((r.a == 0) && (r.b == 0) && (r.c == -1)) := isRuleB_eq r.a r.b r.c

set_option maxHeartbeats 2000000 in
theorem l05Halts_any (g : Nat) (sy st : Int) (A : Option Addr) (n k : Nat) (rs : List R3) (f : Nat) (q : Int) (B : Option Addr) (m c : Nat) (C : Option Addr) (l d : Nat) (ys : List Int) (idx : Nat) (r : R3) (w : World) (hm : MachAt w g sy st A n k) (hrs : S3 w A n rs) (hc : ConfAt w f q B m c C l d) (hy : SI w C l ys) (hl : l ≤ 1048576)
    (h1 : 0 ≤ q * sy) (h2 : q * sy ≤ 1000000) (h3 : 0 ≤ lastI ys.reverse) (h4 : lastI ys.reverse ≤ 1000000) (hidx : Hid (atI sy q ys.reverse = (idx : Int))) (hlt : idx < n) (hri : Hid (rs[idx]? = some r)) (_hn : n ≤ 1048576) :
    Calls Try.prog 138 #[.pointer (some ⟨g, 0, none⟩), .pointer (some ⟨f, 0, none⟩)] w fun e w' => e = .returned (.bool (!isRuleB r)) ∧ Below w.heap.size w w' := by
  have hm' := hm
  obtain ⟨q0, q1, q2⟩ := hm'
  obtain ⟨r', b, off, hr', _, rfl, hbl, p0, p1, p2⟩ := hrs.pick hlt
  obtain rfl : r = r' := by have e1 := hri.out; have e2 := hr'.out; rw [e1] at e2; simpa using e2
  have i1 : (0 : Int) ≤ (idx : Int) := by omega
  have i2 : (idx : Int) < (n : Int) := by omega
  have hgw := hm.lt
  cases g0 : (r.a == 0) <;> cases g1 : (r.b == 0) <;> cases g2 : (r.c == -1)
  all_goals
    have HE := Lib.hid (isRuleB_r r)
    have H0 := Lib.hid g0
    have H1 := Lib.hid g1
    have H2 := Lib.hid g2
    go_enter Try.func138, Try.ntmps138
    go_wp2_with fail
    go_region_held3 (fun w' => w'.cell? ⟨g, 2, none⟩ = some (.slice (some ⟨b, off, none⟩) n k) ∧ w'.cell? ⟨b, off + idx * 3, none⟩ = some (.int .i64 r.a) ∧ w'.cell? ⟨b, off + idx * 3 + 1, none⟩ = some (.int .i64 r.b) ∧ w'.cell? ⟨b, off + idx * 3 + 2, none⟩ = some (.int .i64 r.c))
      (first
        | (go_keep; done)
        | (exact ⟨(z2.cell (p := ⟨g, 2, none⟩) hgw).trans q2, (z2.cell (p := ⟨b, off + idx * 3, none⟩) hbl).trans p0, (z2.cell (p := ⟨b, off + idx * 3 + 1, none⟩) hbl).trans p1, (z2.cell (p := ⟨b, off + idx * 3 + 2, none⟩) hbl).trans p2⟩))
      (first
        | (go_at_call 175; refine (l05At_any _ _ _ _ _ _ _ _ _ _ _ _ _ _ ys _ (hm.drewN 1) (hc.drewN 1) (hy.drewN 1) hl h1 h2 h3 h4).mono ?_; rintro e w' ⟨rfl, nq, rfl⟩; rw [hidx.out])
        | (go_at_call 184; refine (l05None_any _).mono ?_; rintro e w2 ⟨rfl, z2'⟩; have z2 : Below w.heap.size w w2 := below_undrew z2'))
    go_wp2_with fail
    go_ret
    exact ⟨ret_bool (by rw [HE.out, H0.out, H1.out, H2.out]; rfl), z2⟩
end Go.Proofs.Ythipbeggaeogcaa
