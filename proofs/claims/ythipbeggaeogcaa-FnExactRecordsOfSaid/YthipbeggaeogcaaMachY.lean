/-
  The contract of impl's iterator runner.steps.
-/
import Derived.Test.YthipbeggaeogcaaMachX
import Derived.Shelf.Abstract
import Derived.Shelf.RegionOpen
import Derived.OwnWalkIn
import Derived.TacticsInMore
import Derived.LoopNIn
import Derived.LoopIn
namespace Go.Proofs.Ythipbeggaeogcaa
open Go.RowKit Go.Shelf
attribute [local go_sem] Oper.semAt_some

/-- The blocks of X hold cells. -/
def XC (X : Nat → Prop) (W : World) : Prop := ∀ b, X b → ∃ o : Obj, W.heap[b]? = some o ∧ o.isCells = true
theorem XC.lt {X : Nat → Prop} {W : World} (h : XC X W) : ∀ b, X b → b < W.heap.size := fun b hb => by obtain ⟨o, ho, _⟩ := h b hb; exact (Array.getElem?_eq_some_iff.1 ho).1
theorem XC.fr {X : Nat → Prop} {W W' : World} (h : XC X W) (hf : Fr X W W') : XC X W' := fun b hb => by
  obtain ⟨o, ho, hc⟩ := h b hb
  exact ⟨o, (hf.same b hb (Array.getElem?_eq_some_iff.1 ho).1).trans ho, hc⟩

/-- The machine that runs, as the iterator's contract speaks of it. -/
structure Rn where
  w0 : World
  g : Nat
  mb : Nat
  rb : Nat
  sy : Int
  st : Int
  A : Option Addr
  n : Nat
  k : Nat
  rs : List R3
  c : Conf
  most : Nat
/-- What is known of it once and for all. -/
structure Rn.Ok (p : Rn) : Prop where
  good : goodC p.sy p.st p.rs p.c
  rules : S3 p.w0 p.A p.n p.rs
  hg : p.w0.heap.size ≤ p.g
  hn : p.n ≤ 1048576
  hm : p.most ≤ 1000000
abbrev Rn.it (p : Rn) (i : Nat) : Conf := itC p.sy p.rs p.c i

/-- The runner stands behind i steps; D: the caller's own word on blocks X apart from the runner's. -/
def StS (p : Rn) (i : Nat) (D : (Nat → Prop) → World → Prop) (W : World) : Prop :=
  ∃ X, ¬ X p.g ∧ X p.mb ∧ X p.rb ∧ XC X W ∧ RunC X W p.w0.heap.size p.g p.sy p.st p.A p.n p.k (p.it i) ∧ Below p.w0.heap.size p.w0 W ∧ Blk W p.mb 2 #[.int .i64 (p.most : Int)] ∧ Blk W p.rb 227 #[.pointer (some ⟨p.g, 0, none⟩)] ∧ D X W
def StD (D : (Nat → Prop) → World → Prop) : Prop := ∀ X W W', D X W → Fr X W W' → D X W'
theorem StS.fr {p : Rn} {i : Nat} {D : (Nat → Prop) → World → Prop} (hD : StD D) {W W' : World} (h : StS p i D W) (z : Below W.heap.size W W') : StS p i D W' := by
  obtain ⟨X, h1, h2, h3, h4, h5, h6, h7, h8, h9⟩ := h
  have hf : Fr X W W' := Fr.of_below z
  exact ⟨X, h1, h2, h3, h4.fr hf, h5.below z, h6.trans (z.mono h6.size), h7.fr hf h2, h8.fr hf h3, hD X W W' h9 hf⟩
theorem StS.put {p : Rn} {i b0 : Nat} {D : (Nat → Prop) → World → Prop} (hD : StD D) (hb : p.w0.heap.size ≤ b0) : PutOk b0 (StS p i D) := by
  rintro W l o o' ⟨X, h1, h2, h3, h4, h5, h6, h7, h8, h9⟩ hl hg ho
  have hf : Fr X W (W.putObj l o') := fr_put o' h4 hg ho
  exact ⟨X, h1, h2, h3, h4.fr hf, h5.put o' hg ho, below_put h6 (by omega) o' hg, h7.fr hf h2, h8.fr hf h3, hD X W _ h9 hf⟩

def stJ (p : Rn) (D : Nat → (Nat → Prop) → World → Prop) : Nat × Bool → World → Prop
  | (i, true), W => i ≤ p.most ∧ Alive p.sy p.rs p.c i ∧ StS p i (D i) W
  | (i, false), W => (∃ j, i = j + 1 ∧ Full p.sy p.rs p.c p.most j) ∧ Below p.w0.heap.size p.w0 W ∧ ∃ X, XC X W ∧ D i X W
def stJ' (p : Rn) (D : Nat → (Nat → Prop) → World → Prop) : Nat × Bool → World → Prop
  | (i, true), W => i ≤ p.most ∧ Alive p.sy p.rs p.c i ∧ StS p i (D (i + 1)) W
  | (_, false), _ => False
def stFin (p : Rn) (D : Nat → (Nat → Prop) → World → Prop) (W : World) : Prop := ∃ i, Ended p.sy p.rs p.c p.most i ∧ StS p i (D (i + 1)) W
abbrev stEnc (x : Nat × Bool) : Array Value := #[.int .i64 (x.1 : Int), .bool x.2]

theorem stJ_put {p : Rn} {D : Nat → (Nat → Prop) → World → Prop} {b0 : Nat} (hD : ∀ i, StD (D i)) (hb : p.w0.heap.size ≤ b0) (x : Nat × Bool) : PutOk b0 (stJ p D x) := by
  obtain ⟨i, b⟩ := x
  cases b
  · rintro W l o o' ⟨h1, h2, X, h3, h4⟩ hl hg ho
    have hf : Fr X W (W.putObj l o') := fr_put o' h3 hg ho
    exact ⟨h1, below_put h2 (by omega) o' hg, X, h3.fr hf, hD i X W _ h4 hf⟩
  · rintro W l o o' ⟨h1, h2, h3⟩ hl hg ho
    exact ⟨h1, h2, StS.put (hD i) hb W l o o' h3 hl hg ho⟩
theorem stJ'_put {p : Rn} {D : Nat → (Nat → Prop) → World → Prop} {b0 : Nat} (hD : ∀ i, StD (D i)) (hb : p.w0.heap.size ≤ b0) (x : Nat × Bool) : PutOk b0 (stJ' p D x) := by
  obtain ⟨i, b⟩ := x
  cases b
  · rintro W l o o' h
    exact h.elim
  · rintro W l o o' ⟨h1, h2, h3⟩ hl hg ho
    exact ⟨h1, h2, StS.put (hD (i + 1)) hb W l o o' h3 hl hg ho⟩
theorem stFin_put {p : Rn} {D : Nat → (Nat → Prop) → World → Prop} {b0 : Nat} (hD : ∀ i, StD (D i)) (hb : p.w0.heap.size ≤ b0) : PutOk b0 (stFin p D) := by
  rintro W l o o' ⟨i, h1, h3⟩ hl hg ho
  exact ⟨i, h1, StS.put (hD (i + 1)) hb W l o o' h3 hl hg ho⟩

set_option maxHeartbeats 2000000 in
theorem steps1_seq (p : Rn) (hp : p.Ok) (D : Nat → (Nat → Prop) → World → Prop) (hD : ∀ i, StD (D i)) (Jx : Code → Nat × Bool → World → Prop) (n : Nat) :
    SeqC Fence.wide n Try.prog 223 #[.pointer (some ⟨p.mb, 0, none⟩), .pointer (some ⟨p.rb, 0, none⟩)] stEnc (stJ p D) (stJ' p D) Jx (StS p 0 (D 0)) (stFin p D) (fun c W => ∃ x, Jx c x W) := by
  intro l B Bx hB hBx hY W h0 hB0
  have hmost := hp.hm
  have HB := Lib.hid hB
  have HY := Lib.hid hY
  have HD := Lib.hid hD
  clear hB hBx hY hD
  refine callsIn_of_wp Try.func223 rfl trivial ?_ rfl
  simp only [Try.ntmps223, List.size_toArray, List.length_cons, List.length_nil, Nat.reduceAdd, Nat.reduceSub, Array.replicate_succ, Array.replicate_zero, List.push_toArray, List.append_toArray, List.nil_append, List.cons_append]
  gi_wp2
  gi_loopw [4] (fun s wr => ∃ i : Nat, s = .int .i64 (i : Int) ∧ i ≤ p.most ∧ Alive p.sy p.rs p.c i ∧ StS p i (D i) wr ∧ B wr) (fun s _ => p.most - (intOf s).toNat)
  case atStart => exact ⟨0, rfl, Nat.zero_le _, Alive.zero _ _ _, h0, hB0⟩
  case round =>
    obtain ⟨i, rfl, hi, hal, hst, hb⟩ := hrel
    have HAL := Lib.hid hal
    clear hal
    obtain ⟨fn, tmps, assign, body, hy, hR⟩ := HY.out (i, true) wr ⟨hi, HAL.out, hst⟩ hb
    dsimp only [stEnc] at hy
    gi_wp2
    refine ⟨(fun h => by cases h), hR.mono ?_⟩
    rintro e W3 (⟨rfl, ⟨_, _, hst3⟩, hb3⟩ | ⟨rfl, c, hx3, hbx3⟩)
    · have hgood := HAL.out.good hp.good
      have HGOOD := Lib.hid hgood
      clear hgood
      obtain ⟨X, hXg, hXm, hXr, hXC, hrun, hz3, bm, br, hd⟩ := hst3
      have m0 : W3.cell? ⟨p.mb, 0, none⟩ = some (.int .i64 (p.most : Int)) := bm.cell 0
      have r0 : W3.cell? ⟨p.rb, 0, none⟩ = some (.pointer (some ⟨p.g, 0, none⟩)) := br.cell 0
      have HXG := Lib.hid hXg
      have HXC := Lib.hid hXC
      have HDD := Lib.hid hd
      clear hXg hXC hd
      by_cases hlt : i < p.most
      · have hrs3 : S3 W3 p.A p.n p.rs := hp.rules.below hz3
        have hhalt := halts_c hrun hrs3 HGOOD.out hp.hn
        have HHALT := Lib.hid hhalt
        clear hhalt
        cases hh : haltC p.sy p.rs (p.it i) with
        | true =>
          have HH := Lib.hid hh
          clear hh
          gi_wp2
          refine ⟨trivial, (fun h => by cases h), (callsIn_wide.2 HHALT.out).mono ?_⟩
          rintro e W4 ⟨rfl, z4⟩
          rw [HH.out]
          gi_wp2
          have hst4 : StS p i (D (i + 1)) W4 := StS.fr (HD.out _) ⟨X, HXG.out, hXm, hXr, HXC.out, hrun, hz3, bm, br, HDD.out⟩ z4
          exact bodyPost_end (results_none rfl _ _ _) rfl ⟨⟨_, rfl⟩, .inl ⟨⟨i, ⟨hi, HAL.out, .inr HH.out⟩, hst4⟩, HB.out _ _ hb3 (keeps_below z4)⟩⟩
        | false =>
          have HH := Lib.hid hh
          clear hh
          gi_wp2
          refine ⟨trivial, (fun h => by cases h), (callsIn_wide.2 HHALT.out).mono ?_⟩
          rintro e W4 ⟨rfl, z4⟩
          rw [HH.out]
          have hst4 : StS p i (D (i + 1)) W4 := StS.fr (HD.out _) ⟨X, HXG.out, hXm, hXr, HXC.out, hrun, hz3, bm, br, HDD.out⟩ z4
          have hb4 := HB.out _ _ hb3 (keeps_below z4)
          clear HHALT m0 r0 HDD bm br hrun hz3 HXC HXG hXm hXr hb3 hst hb z4 hrs3 hR hy h0 hB0
          obtain ⟨X, hXg, hXm, hXr, hXC, hrun, hz4, bm, br, hd⟩ := hst4
          have r0 : W4.cell? ⟨p.rb, 0, none⟩ = some (.pointer (some ⟨p.g, 0, none⟩)) := br.cell 0
          have hstep := step_c hrun hXg hXC.lt hp.rules hz4 hp.hg HGOOD.out hp.hn
          have HSTEP := Lib.hid hstep
          have HXG := Lib.hid hXg
          have HXC := Lib.hid hXC
          have HDD := Lib.hid hd
          clear hstep hXg hXC hd
          gi_wp2
          refine ⟨trivial, (fun h => by cases h), (callsIn_wide.2 HSTEP.out).mono ?_⟩
          rintro e W5 ⟨rfl, hrun5, hz5, hf5, hk5⟩
          have hb5 := HB.out _ _ hb4 hk5
          have HDD5 : Hid (D (i + 1) X W5) := HD.out _ X _ _ HDD.out hf5
          have HXC5 : Hid (XC X W5) := HXC.out.fr hf5
          have bm5 := bm.fr hf5 hXm
          have br5 := br.fr hf5 hXr
          cases hro : roomC (nextC p.sy p.rs (p.it i)) with
          | true =>
            have HRO := Lib.hid hro
            clear hro
            gi_wp2
            go_roundw
            case rel => exact ⟨i + 1, by go_num, by omega, HAL.out.next HH.out HRO.out, ⟨X, HXG.out, hXm, hXr, HXC5.out, hrun5, hz5, bm5, br5, HDD5.out⟩, hb5⟩
            case measure => simp [intOf]; omega
          | false =>
            have HRO := Lib.hid hro
            clear hro
            obtain ⟨fn, tmps, assign, body, hy, hR⟩ := HY.out (i + 1, false) W5 ⟨⟨i, rfl, hlt, HAL.out, HH.out, HRO.out⟩, hz5, X, HXC5.out, HDD5.out⟩ hb5
            dsimp only [stEnc] at hy
            rw [show ((i + 1 : Nat) : Int) = (i : Int) + 1 from by omega] at hy
            gi_wp2
            refine ⟨(fun h => by cases h), hR.mono ?_⟩
            rintro e W6 (⟨rfl, hF, _⟩ | ⟨rfl, c, hx6, hbx6⟩)
            · exact hF.elim
            · gi_wp2
              exact bodyPost_ret (results_none rfl _ _ _) rfl ⟨⟨_, rfl⟩, .inr ⟨c, ⟨_, hx6⟩, hbx6⟩⟩
      · gi_wp2
        refine ⟨trivial, ?_⟩
        gi_wp2
        exact bodyPost_end (results_none rfl _ _ _) rfl ⟨⟨_, rfl⟩, .inl ⟨⟨i, ⟨hi, HAL.out, .inl (by omega)⟩, X, HXG.out, hXm, hXr, HXC.out, hrun, hz3, bm, br, HDD.out⟩, hb3⟩⟩
    · gi_wp2
      refine ⟨trivial, ?_⟩
      gi_wp2
      exact bodyPost_end (results_none rfl _ _ _) rfl ⟨⟨_, rfl⟩, .inr ⟨c, ⟨_, hx3⟩, hbx3⟩⟩
end Go.Proofs.Ythipbeggaeogcaa
