/-
  What the backward search's functions return, as lists and numbers. No program is in sight.
-/
import Derived.Test.YtokglpdlhacnaaaDoorPbBackAll4
import Derived.Test.YtokglpdlhacnaaaDoorPbBackAll7
namespace Go.Proofs.YtokglpdlhacnaaaDoor
open Go.RowKit

/-- A number with a code: 5 where there is none. -/
def depR (o : Option Int) : Int × Int := match o with
  | some d => (d, 0)
  | none => (0, 5)
/-- The search from the halting partial configurations, which may be too many. -/
def hpO {α : Type} (sy : Int) (rs : List R3) (f : List Pa → Option α) : Option α := if 300 < (hpF sy rs).length then none else f (hpF sy rs)
def bdepF (sy st : Int) (rs : List R3) (b : Int) : Int × Int :=
  if codeF sy st rs blankC b = 0 then depR (hpO sy rs (depthF sy rs 60 0 b)) else (0, codeF sy st rs blankC b)
/-- All partial configurations of a state with one cell. -/
def stateL (sy q : Int) : List Pa := (List.range sy.toNat).map fun s : Nat => (⟨q, 0, [(s : Int)]⟩ : Pa)
def neverF (sy st : Int) (rs : List R3) (q b : Int) : Int × Int :=
  if codeF sy st rs blankC b = 0 then (if inB q 0 (st - 1) then depR (depthF sy rs 60 0 b (stateL sy q)) else (0, 2)) else (0, codeF sy st rs blankC b)
def listR {α : Type} (o : Option (List α)) : List α × Int := match o with
  | some d => (d, 0)
  | none => ([], 5)
def levF (sy st : Int) (rs : List R3) (d : Int) : List Int × Int :=
  if machB sy st rs then (if inB d 0 60 then listR (hpO sy rs fun l => sizesF sy rs d.toNat l [(l.length : Int)]) else ([], 2)) else ([], 1)
def ancR (sy st : Int) (rs : List R3) (x : Pa) (d : Int) : List Pa × Int :=
  if machB sy st rs && paB sy st x then (if inB d 0 60 then listR (ancF sy rs d.toNat [x]) else ([], 2)) else ([], 1)
theorem paB_ok {sy st : Int} {x : Pa} (h : paB sy st x = true) : PaOk sy st x ∧ x.cs.length ≤ 60 := by
  unfold paB at h
  simp only [Bool.and_eq_true, inB_iff] at h
  obtain ⟨⟨⟨h1, h2⟩, h3⟩, h4⟩ := h
  have h5 : ∀ y ∈ x.cs, 0 ≤ y ∧ y < sy := fun y hy => by
    have h6 := List.all_eq_true.1 h4 y hy
    simp only [inB_iff] at h6
    omega
  exact ⟨⟨by omega, by omega, by omega, by omega, h5⟩, by omega⟩
theorem stateL_ok {sy st q : Int} (hq : inB q 0 (st - 1) = true) : ∀ x ∈ stateL sy q, PaOk sy st x ∧ x.cs.length ≤ 60 := by
  intro x hx
  simp only [stateL, List.mem_map, List.mem_range] at hx
  obtain ⟨s, hs, rfl⟩ := hx
  simp only [inB_iff] at hq
  refine ⟨⟨by show 0 ≤ q; omega, by show q < st; omega, Int.le_refl 0, by show (0 : Int) < _; simp, fun y hy => ?_⟩, by show [(s : Int)].length ≤ 60; simp⟩
  have hy2 : y = (s : Int) := List.mem_singleton.1 hy
  omega
theorem stateL_next {q : Int} {j : Nat} : ((List.range (j + 1)).map fun s : Nat => (⟨q, 0, [(s : Int)]⟩ : Pa)) = ((List.range j).map fun s : Nat => (⟨q, 0, [(s : Int)]⟩ : Pa)) ++ [⟨q, 0, [(j : Int)]⟩] := by
  rw [List.range_succ, List.map_append]; rfl
/-- One round of the search for the first empty level. -/
theorem depthF_empty {sy : Int} {rs : List R3} {d : Nat} {n b : Int} : depthF sy rs d n b [] = some n := by cases d <;> simp [depthF]
theorem depthF_zero {sy : Int} {rs : List R3} {n b : Int} {lv : List Pa} (h : lv ≠ []) : depthF sy rs 0 n b lv = none := by simp [depthF, h]
theorem depthF_short {sy : Int} {rs : List R3} {d : Nat} {n b : Int} {lv : List Pa} (h : lv ≠ []) (hb : b < (lv.length : Int)) : depthF sy rs d n b lv = none := by
  cases d with
  | zero => exact depthF_zero h
  | succ d => simp [depthF, h, hb]
theorem depthF_full {sy : Int} {rs : List R3} {d : Nat} {n b : Int} {lv : List Pa} (h : lv ≠ []) (hn : nextF sy rs lv = none) : depthF sy rs d n b lv = none := by
  cases d with
  | zero => exact depthF_zero h
  | succ d => simp only [depthF, if_neg h, hn, Option.bind_none]; split <;> rfl
theorem depthF_next {sy : Int} {rs : List R3} {d : Nat} {n b : Int} {lv l : List Pa} (h : lv ≠ []) (hb : (lv.length : Int) ≤ b) (hn : nextF sy rs lv = some l) : depthF sy rs (d + 1) n b lv = depthF sy rs d (n + 1) (b - lv.length) l := by
  simp only [depthF, if_neg h, hn, Option.bind_some]
  rw [if_neg (by omega)]
theorem sizesF_zero {sy : Int} {rs : List R3} {lv : List Pa} {out : List Int} : sizesF sy rs 0 lv out = some out := rfl
theorem sizesF_empty {sy : Int} {rs : List R3} {d : Nat} {out : List Int} : sizesF sy rs d [] out = some out := by cases d <;> simp [sizesF]
theorem sizesF_full {sy : Int} {rs : List R3} {d : Nat} {lv : List Pa} {out : List Int} (h : lv ≠ []) (hn : nextF sy rs lv = none) : sizesF sy rs (d + 1) lv out = none := by simp [sizesF, h, hn]
theorem sizesF_next {sy : Int} {rs : List R3} {d : Nat} {lv l : List Pa} {out : List Int} (h : lv ≠ []) (hn : nextF sy rs lv = some l) : sizesF sy rs (d + 1) lv out = sizesF sy rs d l (out ++ [(l.length : Int)]) := by simp [sizesF, h, hn]
/-- A level's length never passes its own steps: what stays of many. -/
theorem ancF_full {sy : Int} {rs : List R3} {d : Nat} {lv : List Pa} (hn : nextF sy rs lv = none) : ancF sy rs (d + 1) lv = none := by simp [ancF, hn]
theorem ancF_next {sy : Int} {rs : List R3} {d : Nat} {lv l : List Pa} (hn : nextF sy rs lv = some l) : ancF sy rs (d + 1) lv = ancF sy rs d l := by simp [ancF, hn]
end Go.Proofs.YtokglpdlhacnaaaDoor

/-
  The search for the first empty level ((*level).firstEmpty), and the halting level 0.
-/
namespace Go.Proofs.YtokglpdlhacnaaaDoor
open Go.RowKit

def NumP (w : World) (g : Nat) (r : Int × Int) (e : Ending) (w' : World) : Prop := e = .returned (.tuple #[.int .i64 r.1, .int .i64 r.2]) ∧ Kb g w w'
theorem numP {w w' : World} {g : Nat} {o : Option Int} {a b : Int} (h : depR o = (a, b)) (k : Kb g w w') : NumP w g (depR o) (.returned (.tuple #[.int .i64 a, .int .i64 b])) w' := by
  rw [h]; exact ⟨rfl, k⟩
theorem NextPost.yes {w w' : World} {g : Nat} {sy st : Int} {B : Option Addr} {m k : Nat} {rs : List R3} {lv l : List Pa} {s : Int} {e : Ending} (h : NextPost w g sy st B m k rs lv s e w') (hl : (lv.length : Int) ≤ s) (hn : nextF sy rs lv = some l) :
    ∃ A c ts, e = .returned (.int .i64 0) ∧ Lev w' g sy st B m k A ts.length c (s - lv.length) ∧ OPs w' w.heap.size A ts.length c ts ∧ pas ts = l ∧ Kb g w w' := by
  obtain ⟨⟨_, l', A, c, ts, h1, h2, h3, h4, h5⟩ | ⟨h1, _⟩, hk⟩ := h
  · rw [hn] at h1; cases h1
    exact ⟨A, c, ts, h2, h3, h4, h5, hk⟩
  · rcases h1 with h1 | h1
    · omega
    · rw [hn] at h1; cases h1
theorem NextPost.no {w w' : World} {g : Nat} {sy st : Int} {B : Option Addr} {m k : Nat} {rs : List R3} {lv : List Pa} {s : Int} {e : Ending} (h : NextPost w g sy st B m k rs lv s e w') (hc : s < (lv.length : Int) ∨ nextF sy rs lv = none) : e = .returned (.int .i64 5) ∧ Kb g w w' := by
  obtain ⟨⟨h0, l', A, c, ts, h1, _⟩ | ⟨_, h2⟩, hk⟩ := h
  · rcases hc with hc | hc
    · omega
    · rw [hc] at h1; cases h1
  · exact ⟨h2, hk⟩
set_option maxRecDepth 100000 in
set_option maxHeartbeats 8000000 in
theorem firstEmpty_any (g lo : Nat) (sy st : Int) (B : Option Addr) (m k : Nat) (rs : List R3) (A : Option Addr) (n c : Nat) (lv : List Pm) (s : Int) (w : World) (hL : Lev w g sy st B m k A n c s) (hO : OPs w lo A n c lv) (hr : S3 w B m rs) (hm : machB sy st rs = true) (hgB : blk B ≠ some g) (hok : ∀ x ∈ pas lv, PaOk sy st x ∧ x.cs.length ≤ 60) (hs : 0 ≤ s ∧ s ≤ 1000000) (hn : n ≤ 6000) (ht : Tab w) :
    Calls Tryd.prog 60 #[.pointer (some ⟨g, 0, none⟩)] w (NumP w g (depR (depthF sy rs 60 0 s (pas lv)))) := by
  obtain rfl : n = lv.length := hO.len.symm
  have HL := Lib.hid hL
  have HO := Lib.hid hO
  have HR := Lib.hid hr
  have HM := Lib.hid hm
  have HOK := Lib.hid hok
  have HT := Lib.hid ht
  have HS := Lib.hid hs
  have HN := Lib.hid hn
  clear hL hO hr hm hok ht hs hn
  go_enter Tryd.func60, Tryd.ntmps60
  go_wp2_with fail
  go_loopw [5] (fun i wr => ∃ (j : Nat) (A' : Option Addr) (c' : Nat) (ts : List Pm) (s' : Int), j ≤ 60 ∧ i = .int .i64 (j : Int) ∧ Hid (Lev wr g sy st B m k A' ts.length c' s') ∧ Hid (∃ lo, OPs wr lo A' ts.length c' ts) ∧ Hid (depthF sy rs 60 0 s (pas lv) = depthF sy rs (60 - j) (j : Int) s' (pas ts)) ∧ Hid (∀ x ∈ pas ts, PaOk sy st x ∧ x.cs.length ≤ 60) ∧ Hid (0 ≤ s' ∧ s' ≤ 1000000) ∧ Hid (ts.length ≤ 6000) ∧ Hid (Kb g w wr)) (fun i _ => 61 - (intOf i).toNat)
  case atStart => exact ⟨0, A, c, lv, s, by omega, rfl, HL, Lib.hid ⟨lo, HO.out⟩, Lib.hid rfl, HOK, HS, HN, Lib.hid (Kb.refl _ _)⟩
  case round =>
    obtain ⟨j, A', c', ts, s', hj, rfl, HL1, HO1, HD1, HOK1, HS1, HN1, HKb⟩ := hrel
    rename World => W0
    have x3 : W0.cell? ⟨g, 3, none⟩ = some (.slice A' ts.length c') := HL1.out.cell 3
    have j1 : (j : Int) < 61 := by omega
    by_cases h0 : ts.length = 0
    · have z0 : ((ts.length : Int) == 0) = true := by simp [h0]
      have HE : Hid (depR (depthF sy rs 60 0 s (pas lv)) = ((j : Int), 0)) := Lib.hid (by
        rw [HD1.out, show pas ts = [] from by rw [List.eq_nil_of_length_eq_zero h0]; rfl, depthF_empty]; rfl)
      go_wp2_with fail
      exact bodyPost_ret (v := .tuple #[.int .i64 (j : Int), .int .i64 0]) (by simp [results, Tryd.results60, go_sem]) rfl (numP HE.out HKb.out)
    · have z0 : ((ts.length : Int) == 0) = false := by rw [beq_eq_false_iff_ne]; omega
      have HNE : Hid (pas ts ≠ []) := Lib.hid (fun h => h0 (by have := congrArg List.length h; simpa [pas] using this))
      by_cases h60 : j = 60
      · subst h60
        have HE : Hid (depR (depthF sy rs 60 0 s (pas lv)) = (0, 5)) := Lib.hid (by rw [HD1.out, depthF_zero HNE.out]; rfl)
        go_wp2_with fail
        exact bodyPost_ret (v := .tuple #[.int .i64 0, .int .i64 5]) (by simp [results, Tryd.results60, go_sem]) rfl (numP HE.out HKb.out)
      · have z6 : ((j : Int) == 60) = false := by simp; omega
        have HPL : Hid (((pas ts).length : Int) = ts.length) := Lib.hid (by simp [pas])
        have HCALL : Hid (Calls Tryd.prog 74 #[.pointer (some ⟨g, 0, none⟩)] W0 (NextPost W0 g sy st B m k rs (pas ts) s')) := Lib.hid (by
          obtain ⟨lo1, hO1⟩ := HO1.out
          exact levelNext_any g lo1 sy st B m k rs A' ts.length c' ts s' W0 HL1.out hO1 (HR.out.keep fun p hp he => World.cell?_of_block (HKb.out.block p.block hp (fun e => hgB (by rw [← he, e])))) HM.out hgB HOK1.out HS1.out HN1.out (HT.out.kb HKb.out HL.out (by simp)))
        have HJ : Hid (60 - j = (60 - (j + 1)) + 1) := Lib.hid (by omega)
        by_cases hb : s' < (ts.length : Int)
        · have HE : Hid (depR (depthF sy rs 60 0 s (pas lv)) = (0, 5)) := Lib.hid (by rw [HD1.out, depthF_short HNE.out (by rw [HPL.out]; exact hb)]; rfl)
          have HC2 := Lib.hid (HCALL.out.mono fun e w2 h => h.no (.inl (by rw [HPL.out]; exact hb)))
          clear hb
          go_wp2_with (go_at_call 74; refine HC2.out.mono ?_; rintro e w2 ⟨rfl, hk2⟩)
          exact bodyPost_ret (v := .tuple #[.int .i64 0, .int .i64 5]) (by simp [results, Tryd.results60, go_sem]) rfl (numP HE.out (HKb.out.trans hk2))
        cases hnx : nextF sy rs (pas ts) with
        | none =>
          have HE : Hid (depR (depthF sy rs 60 0 s (pas lv)) = (0, 5)) := Lib.hid (by rw [HD1.out, depthF_full HNE.out hnx]; rfl)
          have HC2 := Lib.hid (HCALL.out.mono fun e w2 h => h.no (.inr hnx))
          clear hnx hb
          go_wp2_with (go_at_call 74; refine HC2.out.mono ?_; rintro e w2 ⟨rfl, hk2⟩)
          exact bodyPost_ret (v := .tuple #[.int .i64 0, .int .i64 5]) (by simp [results, Tryd.results60, go_sem]) rfl (numP HE.out (HKb.out.trans hk2))
        | some l =>
          have hle : ((pas ts).length : Int) ≤ s' := by rw [HPL.out]; omega
          have HD2 : Hid (depthF sy rs 60 0 s (pas lv) = depthF sy rs (60 - (j + 1)) ((j + 1 : Nat) : Int) (s' - (pas ts).length) l) := Lib.hid (by rw [HD1.out, HJ.out, depthF_next HNE.out hle hnx]; rfl)
          have HOK2 := Lib.hid (nextF_ok HM.out HOK1.out hnx)
          have HS2 : Hid (0 ≤ s' - ((pas ts).length : Int) ∧ s' - ((pas ts).length : Int) ≤ 1000000) := Lib.hid (by have := HS1.out; omega)
          have HC2 := Lib.hid (HCALL.out.mono fun e w2 h => h.yes hle hnx)
          clear hnx hb hle
          go_wp2_with (go_at_call 74; refine HC2.out.mono ?_; rintro e w2 ⟨A2, c2, ts2, rfl, hL2, hO2, hp2, hk2⟩; have HL2 := Lib.hid hL2; have HO2 := Lib.hid hO2; have HP2 := Lib.hid hp2; clear hL2 hO2 hp2)
          have HN2 : Hid (ts2.length ≤ 6000) := Lib.hid (by have h1 := HOK2.out.2; rw [← HP2.out] at h1; have h2 : (pas ts2).length = ts2.length := by simp [pas]
                                                            omega)
          go_roundw
          case rel => exact ⟨j + 1, A2, c2, ts2, s' - ((pas ts).length : Int), by omega, by go_num, HL2, Lib.hid ⟨_, HO2.out⟩, by rw [HP2.out]; exact HD2, by rw [HP2.out]; exact Lib.hid HOK2.out.1, HS2, HN2, Lib.hid (HKb.out.trans hk2)⟩
          case measure => simp [intOf]; omega
end Go.Proofs.YtokglpdlhacnaaaDoor

/-
  Contracts of impl's nodeStatus and NodeStatus.
-/
namespace Go.Proofs.YtokglpdlhacnaaaDoor
open Go.RowKit

/-- The status of a machine, the index at which it halts, and the number of steps. -/
def nodeF (sy : Int) (rs : List R3) (N : Nat) : Int × Int × Int :=
  match runN sy rs N blankC with
  | none => (3, 0, 0)
  | some i => if haltC sy rs (itC sy rs blankC i) then ((if (freeF rs).length = 1 then 1 else 0), atI sy (itC sy rs blankC i).q (itC sy rs blankC i).ys.reverse, (i : Int)) else (2, 0, (i : Int))
theorem nodeF_full {sy : Int} {rs : List R3} {N i : Nat} (h : Full sy rs blankC N i) : nodeF sy rs N = (3, 0, 0) := by unfold nodeF; rw [runN_full h]
theorem nodeF_runs {sy : Int} {rs : List R3} {N i : Nat} (h : Ended sy rs blankC N i) (hh : haltC sy rs (itC sy rs blankC i) = false) : nodeF sy rs N = (2, 0, (i : Int)) := by unfold nodeF; rw [runN_ended h]; simp [hh]
theorem nodeF_last {sy : Int} {rs : List R3} {N i : Nat} (h : Ended sy rs blankC N i) (hh : haltC sy rs (itC sy rs blankC i) = true) (hf : (freeF rs).length = 1) : nodeF sy rs N = (1, atI sy (itC sy rs blankC i).q (itC sy rs blankC i).ys.reverse, (i : Int)) := by unfold nodeF; rw [runN_ended h]; simp [hh, hf]
theorem nodeF_open {sy : Int} {rs : List R3} {N i : Nat} (h : Ended sy rs blankC N i) (hh : haltC sy rs (itC sy rs blankC i) = true) (hf : ¬ (freeF rs).length = 1) : nodeF sy rs N = (0, atI sy (itC sy rs blankC i).q (itC sy rs blankC i).ys.reverse, (i : Int)) := by unfold nodeF; rw [runN_ended h]; simp [hh, hf]

def NodeP (w : World) (v : Int × Int × Int) (e : Ending) (w' : World) : Prop := e = .returned (.tuple #[.int .i64 v.1, .int .i64 v.2.1, .int .i64 v.2.2]) ∧ Below w.heap.size w w'
theorem nodeP {w w' : World} {v : Int × Int × Int} {a b c : Int} (h : v = (a, b, c)) (z : Below w.heap.size w w') : NodeP w v (.returned (.tuple #[.int .i64 a, .int .i64 b, .int .i64 c])) w' := by subst h; exact ⟨rfl, z⟩

/-- The four numbers that NodeStatus returns. -/
def nodeStatusF (sy st : Int) (rs : List R3) (b : Int) : Int × Int × Int × Int :=
  if codeF sy st rs blankC b = 0 then ((nodeF sy rs b.toNat).1, (nodeF sy rs b.toNat).2.1, (nodeF sy rs b.toNat).2.2, 0) else (0, 0, 0, codeF sy st rs blankC b)
def Node4 (w : World) (v : Int × Int × Int × Int) (e : Ending) (w' : World) : Prop := e = .returned (.tuple #[.int .i64 v.1, .int .i64 v.2.1, .int .i64 v.2.2.1, .int .i64 v.2.2.2]) ∧ Below w.heap.size w w'
theorem node4 {w w' : World} {v : Int × Int × Int × Int} {a b c d : Int} (h : v = (a, b, c, d)) (z : Below w.heap.size w w') : Node4 w v (.returned (.tuple #[.int .i64 a, .int .i64 b, .int .i64 c, .int .i64 d])) w' := by subst h; exact ⟨rfl, z⟩
theorem codeF_zero {sy st : Int} {rs : List R3} {c : Conf} {b : Int} (h : codeF sy st rs c b = 0) : goodC sy st rs c ∧ 1 ≤ b ∧ b ≤ 20000 := by
  unfold codeF at h
  split at h
  · rename_i h1
    split at h
    · rename_i h2
      unfold inB at h2
      simp at h2
      exact ⟨h1, h2.1, h2.2⟩
    · cases h
  · cases h

end Go.Proofs.YtokglpdlhacnaaaDoor

/-
  The halting level 0, the number of the first empty level, the levels' sizes.
-/
namespace Go.Proofs.YtokglpdlhacnaaaDoor
open Go.RowKit

/-- A level in new memory. -/
def HLev (w : World) (sy st : Int) (B : Option Addr) (m k : Nat) (rs : List R3) (s : Int) (e : Ending) (w' : World) : Prop :=
  ∃ g A c ts, e = .returned (.tuple #[.pointer (some ⟨g, 0, none⟩), .bool (decide ((ts.length : Int) ≤ 300))]) ∧ w.heap.size ≤ g ∧ Lev w' g sy st B m k A ts.length c s ∧ OPs w' w.heap.size A ts.length c ts ∧ pas ts = hpF sy rs ∧ Below w.heap.size w w'
set_option maxRecDepth 100000 in
set_option maxHeartbeats 4000000 in
theorem haltingLevel_any (sy st : Int) (B : Option Addr) (m k : Nat) (rs : List R3) (s : Int) (w : World) (hr : S3 w B m rs) (hm : machB sy st rs = true) :
    Calls Tryd.prog 63 #[.agg #[.int .i64 sy, .int .i64 st, .slice B m k], .int .i64 s] w (HLev w sy st B m k rs s) := by
  obtain ⟨V, hW_⟩ : ∃ W, W = w.alloc (.cells #[.int .i64 sy, .int .i64 st, .slice B m k] 43) := ⟨_, rfl⟩
  have b0 : Blk V w.heap.size 43 #[.int .i64 sy, .int .i64 st, .slice B m k] := by rw [hW_]; exact Blk.new w _ _
  have y0 : Below w.heap.size w V := by rw [hW_]; exact (Below.refl _ _).alloc (Nat.le_refl _) _
  have HV := Lib.hid hW_
  clear hW_
  have q0 : V.cell? ⟨w.heap.size, 0, none⟩ = some (.int .i64 sy) := b0.cell 0
  have q1 : V.cell? ⟨w.heap.size, 1, none⟩ = some (.int .i64 st) := b0.cell 1
  have q2 : V.cell? ⟨w.heap.size, 2, none⟩ = some (.slice B m k) := b0.cell 2
  have HH := Lib.hid (fun W' (h : Below V.heap.size V W') => haltingPartials_any sy st B m k rs W' ((hr.below y0).below h) hm)
  have HSS := Lib.hid (fun W' (h : Below V.heap.size V W') => (⟨(b0.below' h).cell 0, (b0.below' h).cell 1, (b0.below' h).cell 2⟩ : W'.cell? ⟨w.heap.size, 0, none⟩ = some (.int .i64 sy) ∧ W'.cell? ⟨w.heap.size, 1, none⟩ = some (.int .i64 st) ∧ W'.cell? ⟨w.heap.size, 2, none⟩ = some (.slice B m k)))
  have hlt := b0.lt
  have HY0 := Lib.hid y0
  clear b0 y0 hr hm
  go_enter Tryd.func63, Tryd.ntmps63
  go_upto_region 1 with fail
  rw [← HV.out]
  go_region_held3 (fun W' => W'.cell? ⟨w.heap.size, 0, none⟩ = some (.int .i64 sy) ∧ W'.cell? ⟨w.heap.size, 1, none⟩ = some (.int .i64 st) ∧ W'.cell? ⟨w.heap.size, 2, none⟩ = some (.slice B m k))
    (first
      | (go_keep; done)
      | (exact HSS.out _ zz)
      | (exact HSS.out _ (zz.alloc zz.size _)))
    ((go_at_call 81; refine (HH.out _ (below_drewN (Below.refl _ _) 1)).mono ?_; rintro e w5 ⟨A5, c5, ts5, rfl, hO5, hp5, z5⟩; have zz : Below V.heap.size V w5 := below_undrew (n := 1) z5))
  obtain ⟨W6, hW6⟩ : ∃ W6, W6 = w5.alloc (.cells #[.int .i64 sy, .int .i64 st, .slice B m k, .slice A5 ts5.length c5, .int .i64 s] 98) := ⟨_, rfl⟩
  rw [← hW6]
  have b6 : Blk W6 w5.heap.size 98 #[.int .i64 sy, .int .i64 st, .slice B m k, .slice A5 ts5.length c5, .int .i64 s] := by rw [hW6]; exact Blk.new _ _ _
  have x3 : W6.cell? ⟨w5.heap.size, 3, none⟩ = some (.slice A5 ts5.length c5) := b6.cell 3
  have HO6 : Hid (OPs W6 V.heap.size A5 ts5.length c5 ts5) := Lib.hid (by rw [hW6]; exact hO5.alloc _)
  have HZ6 : Hid (Below V.heap.size V W6) := Lib.hid (by rw [hW6]; exact zz.alloc zz.size _)
  have HB6 := Lib.hid b6
  have HP5 := Lib.hid hp5
  have HZ := Lib.hid zz
  clear hW6 b6 hO5 hp5 zz z5
  go_wp2_with fail
  go_quiet (fail)
  go_wp2_with fail
  exact bodyPost_ret (v := .tuple #[.pointer (some ⟨w5.heap.size, 0, none⟩), .bool (decide ((ts5.length : Int) ≤ 300))]) (by simp [results, Tryd.results63, go_sem]) rfl
    ⟨_, A5, c5, ts5, rfl, by have := HY0.out.size; have := HZ.out.size; omega, HB6.out.drewN _, (HO6.out.drewN _).mono HY0.out.size, HP5.out, below_drewN (HY0.out.trans (HZ6.out.mono HY0.out.size)) _⟩
theorem mach_blk {sy st : Int} {rs : List R3} {w : World} {B : Option Addr} {m : Nat} (hr : S3 w B m rs) (hm : machB sy st rs = true) : ∀ x, blk B = some x → x < w.heap.size := by
  obtain ⟨p1, _, p3, _, p5, _⟩ := machB_parts hm
  have h0 : 0 < m := by
    have h1 : (1 : Int) * 2 ≤ st * sy := Int.mul_le_mul p3 p1 (by omega) (by omega)
    have := hr.len
    omega
  intro x hx
  obtain ⟨r, b, off, _, _, rfl, hlt, _⟩ := hr.pick h0
  cases hx
  exact hlt
def NumB (w : World) (r : Int × Int) (e : Ending) (w' : World) : Prop := e = .returned (.tuple #[.int .i64 r.1, .int .i64 r.2]) ∧ Below w.heap.size w w'
theorem numB {w w' : World} {r : Int × Int} {a b : Int} (h : r = (a, b)) (k : Below w.heap.size w w') : NumB w r (.returned (.tuple #[.int .i64 a, .int .i64 b])) w' := by
  rw [h]; exact ⟨rfl, k⟩
set_option maxRecDepth 100000 in
set_option maxHeartbeats 4000000 in
theorem backwardDepthI_any (sy st : Int) (B : Option Addr) (m k : Nat) (rs : List R3) (b : Int) (w : World) (hr : S3 w B m rs) (hn : m ≤ 1048576) (ht : Tab w) :
    Calls Tryd.prog 25 #[.agg #[.int .i64 sy, .int .i64 st, .slice B m k], .int .i64 b] w (NumB w (bdepF sy st rs b)) := by
  obtain ⟨V, hW_⟩ : ∃ W, W = w.alloc (.cells #[.int .i64 sy, .int .i64 st, .slice B m k] 43) := ⟨_, rfl⟩
  have b0 : Blk V w.heap.size 43 #[.int .i64 sy, .int .i64 st, .slice B m k] := by rw [hW_]; exact Blk.new w _ _
  have y0 : Below w.heap.size w V := by rw [hW_]; exact (Below.refl _ _).alloc (Nat.le_refl _) _
  have HV := Lib.hid hW_
  clear hW_
  have q0 : V.cell? ⟨w.heap.size, 0, none⟩ = some (.int .i64 sy) := b0.cell 0
  have q1 : V.cell? ⟨w.heap.size, 1, none⟩ = some (.int .i64 st) := b0.cell 1
  have q2 : V.cell? ⟨w.heap.size, 2, none⟩ = some (.slice B m k) := b0.cell 2
  have HB0 := Lib.hid b0
  have HRW := Lib.hid hr
  have HR := Lib.hid (hr.below y0)
  have HT := Lib.hid (ht.below y0)
  have HY0 := Lib.hid y0
  have HBC := Lib.hid (budgeted_any sy st B m k rs b V (hr.below y0) hn)
  clear b0 y0 hr ht
  go_enter Tryd.func25, Tryd.ntmps25
  go_upto_region 1 with fail
  rw [← HV.out]
  by_cases hc : codeF sy st rs blankC b = 0
  · rw [hc] at HBC
    have HC := Lib.hid hc
    obtain ⟨hg0, hb1, hb2⟩ := codeF_zero hc
    have hm := good_mach hg0
    have HM := Lib.hid hm
    clear hc hg0 hm
    go_upto_region 4 with (go_at_call 58; refine HBC.out.mono ?_; rintro e w2 ⟨rfl, z2⟩)
    have hb2 := HB0.out.below' z2
    have u0 : w2.cell? ⟨w.heap.size, 0, none⟩ = some (.int .i64 sy) := hb2.cell 0
    have u1 : w2.cell? ⟨w.heap.size, 1, none⟩ = some (.int .i64 st) := hb2.cell 1
    have u2 : w2.cell? ⟨w.heap.size, 2, none⟩ = some (.slice B m k) := hb2.cell 2
    have HZ2 := Lib.hid (HY0.out.trans (z2.mono HY0.out.size))
    clear q0 q1 q2 hb2 
    go_upto_region 5 with (go_at_call 63; refine (haltingLevel_any sy st B m k rs b w2 (HR.out.below z2) HM.out).mono ?_; rintro e w3 ⟨g, A, c, ts, rfl, hgl, hL, hO, hp, z3⟩)
    have HZ3 := Lib.hid (HZ2.out.trans (z3.mono HZ2.out.size))
    have HTL : Hid ((hpF sy rs).length = ts.length) := Lib.hid (by rw [← hp]; simp [pas])
    by_cases h3 : ts.length ≤ 300
    · have t3 : decide ((ts.length : Int) ≤ 300) = true := by simp; omega
      have HE : Hid (bdepF sy st rs b = depR (depthF sy rs 60 0 b (pas ts))) := Lib.hid (by
        unfold bdepF hpO; rw [if_pos HC.out, if_neg (by rw [HTL.out]; omega), hp])
      have HFE : Hid (Calls Tryd.prog 60 #[.pointer (some ⟨g, 0, none⟩)] w3 (NumP w3 g (depR (depthF sy rs 60 0 b (pas ts))))) := Lib.hid (firstEmpty_any g _ sy st B m k rs A _ c ts b w3 hL hO (HRW.out.below HZ3.out) HM.out (fun h => by have h1 := mach_blk HRW.out HM.out _ h; have := HZ2.out.size; omega) (fun x hx => hpF_ok HM.out x (by rw [← hp]; exact hx)) (by omega) (by omega) ((HT.out.below z2).below z3))
      have HGL : Hid (w.heap.size ≤ g) := Lib.hid (by have := HZ2.out.size; omega)
      clear hL hO hp z3 hgl u0 u1 u2 h3
      rw [t3]
      clear t3
      generalize bdepF sy st rs b = R at *
      go_wp2_with (go_at_call 60; refine HFE.out.mono ?_; rintro e w4 ⟨rfl, k4⟩)
      exact bodyPost_ret (v := .tuple #[.int .i64 (depR (depthF sy rs 60 0 b (pas ts))).1, .int .i64 (depR (depthF sy rs 60 0 b (pas ts))).2]) (by simp [results, Tryd.results25, go_sem]) rfl (numB HE.out (k4.below HZ3.out HGL.out))
    · have t3 : decide ((ts.length : Int) ≤ 300) = false := by simp; omega
      have HE : Hid (bdepF sy st rs b = (0, 5)) := Lib.hid (by
        unfold bdepF hpO; rw [if_pos HC.out, if_pos (by rw [HTL.out]; omega)]; rfl)
      rw [t3]
      clear t3
      go_wp2_with fail
      exact bodyPost_ret (v := .tuple #[.int .i64 0, .int .i64 5]) (by simp [results, Tryd.results25, go_sem]) rfl (numB HE.out HZ3.out)
  · have HE : Hid (bdepF sy st rs b = (0, codeF sy st rs blankC b)) := Lib.hid (by unfold bdepF; rw [if_neg hc])
    generalize codeF sy st rs blankC b = cd at *
    have j1 : (cd == 0) = false := by rw [beq_eq_false_iff_ne]; exact hc
    clear hc
    go_wp2_with (go_at_call 58; refine HBC.out.mono ?_; rintro e w2 ⟨rfl, z2⟩)
    exact bodyPost_ret (v := .tuple #[.int .i64 0, .int .i64 cd]) (by simp [results, Tryd.results25, go_sem]) rfl (numB HE.out (HY0.out.trans (z2.mono HY0.out.size)))
theorem sizeP_any (A : Option Addr) (n c : Nat) (w : World) (_h : n ≤ 9223372036854775807) :
    Calls Tryd.prog 98 #[.slice A n c] w fun e w' => e = .returned (.int .i64 n) ∧ w = w' := by
  go_enter Tryd.func98, Tryd.ntmps98
  go_wp2
  go_ret
  exact ⟨rfl, rfl⟩
/-- A list of numbers with a code, in new memory. -/
def ListB (w : World) (r : List Int × Int) (e : Ending) (w' : World) : Prop :=
  ∃ A c, e = .returned (.tuple #[.slice A r.1.length c, .int .i64 r.2]) ∧ (Own w' w.heap.size 2 1 A r.1.length c (ints r.1)) ∧ Below w.heap.size w w'
theorem listB {w w' : World} {r : List Int × Int} {l : List Int} {b : Int} {A : Option Addr} {n c : Nat} (h : r = (l, b)) (hn : n = l.length) (o : Own w' w.heap.size 2 1 A n c (ints l)) (k : Below w.heap.size w w') : ListB w r (.returned (.tuple #[.slice A n c, .int .i64 b])) w' := by
  subst h hn; exact ⟨A, c, rfl, o, k⟩
set_option maxRecDepth 100000 in
set_option maxHeartbeats 8000000 in
theorem backwardLevels_any (sy st : Int) (B : Option Addr) (m k : Nat) (rs : List R3) (D : Nat) (R : List Int × Int) (hR : listR (hpO sy rs fun l => sizesF sy rs D l [(l.length : Int)]) = R) (w : World) (hr : S3 w B m rs) (hm : machB sy st rs = true) (hD : D ≤ 60) (ht : Tab w) :
    Calls Tryd.prog 66 #[.agg #[.int .i64 sy, .int .i64 st, .slice B m k], .int .i64 (D : Int)] w (ListB w R) := by
  obtain ⟨V, hW_⟩ : ∃ W, W = w.alloc (.cells #[.int .i64 sy, .int .i64 st, .slice B m k] 43) := ⟨_, rfl⟩
  have b0 : Blk V w.heap.size 43 #[.int .i64 sy, .int .i64 st, .slice B m k] := by rw [hW_]; exact Blk.new w _ _
  have y0 : Below w.heap.size w V := by rw [hW_]; exact (Below.refl _ _).alloc (Nat.le_refl _) _
  have HV := Lib.hid hW_
  clear hW_
  have q0 : V.cell? ⟨w.heap.size, 0, none⟩ = some (.int .i64 sy) := b0.cell 0
  have q1 : V.cell? ⟨w.heap.size, 1, none⟩ = some (.int .i64 st) := b0.cell 1
  have q2 : V.cell? ⟨w.heap.size, 2, none⟩ = some (.slice B m k) := b0.cell 2
  have HB0 := Lib.hid b0
  have HRW := Lib.hid hr
  have HT := Lib.hid ht
  have HM := Lib.hid hm
  have HY0 := Lib.hid y0
  have HHL := Lib.hid (haltingLevel_any sy st B m k rs 18300 V (hr.below y0) hm)
  have HRR := Lib.hid hR
  clear hR b0 y0 hr ht hm
  go_enter Tryd.func66, Tryd.ntmps66
  go_upto_region 1 with fail
  rw [← HV.out]
  go_upto_region 2 with (go_at_call 63; refine HHL.out.mono ?_; rintro e w3 ⟨g, A, c, ts, rfl, hgl, hL, hO, hp, z3⟩)
  have HZ3 := Lib.hid (HY0.out.trans (z3.mono HY0.out.size))
  have HTL : Hid ((hpF sy rs).length = ts.length) := Lib.hid (by rw [← hp]; simp [pas])
  clear q0 q1 q2
  by_cases h3 : ts.length ≤ 300
  rotate_left
  · have t3 : decide ((ts.length : Int) ≤ 300) = false := by simp; omega
    have HE : Hid (R = ([], 5)) := Lib.hid (by
      rw [← HRR.out]; unfold hpO; rw [if_pos (by rw [HTL.out]; omega)]; rfl)
    rw [t3]
    clear t3
    go_wp2_with fail
    exact bodyPost_ret (v := .tuple #[.slice none 0 0, .int .i64 5]) (by simp [results, Tryd.results66, go_sem]) rfl (listB HE.out rfl Own.nil HZ3.out)
  have t3 : decide ((ts.length : Int) ≤ 300) = true := by simp; omega
  have HR2 : Hid (R = listR (sizesF sy rs D (pas ts) [(ts.length : Int)])) := Lib.hid (by
    rw [← HRR.out]; unfold hpO; rw [if_neg (by rw [HTL.out]; omega)]; show listR (sizesF sy rs D (hpF sy rs) [((hpF sy rs).length : Int)]) = _; rw [HTL.out, hp])
  have HOK := Lib.hid (fun x (hx : x ∈ pas ts) => hpF_ok HM.out x (by rw [← hp]; exact hx))
  have HGB : Hid (blk B ≠ some g) := Lib.hid (fun h => by have h1 := mach_blk HRW.out HM.out _ h; have := HY0.out.size; omega)
  have HGL : Hid (w.heap.size ≤ g) := Lib.hid (by have := HY0.out.size; omega)
  have x3 : w3.cell? ⟨g, 3, none⟩ = some (.slice A ts.length c) := hL.cell 3
  have HL := Lib.hid hL
  have HO := Lib.hid hO
  have hg3 := hL.lt
  rw [t3]
  clear t3 hL hO hgl z3 hp
  go_upto_region 5 with (go_at_call 98; refine (sizeP_any _ _ _ _ (by omega)).mono ?_; rintro e w' ⟨rfl, rfl⟩)
  obtain ⟨W4, hW4⟩ : ∃ W4, W4 = w3.alloc (.cells #[.int .i64 (ts.length : Int)] 2) := ⟨_, rfl⟩
  rw [← hW4]
  have z4 : Below w3.heap.size w3 W4 := by rw [hW4]; exact (Below.refl _ _).alloc (Nat.le_refl _) _
  have o4 : Own W4 w3.heap.size 2 1 (some ⟨w3.heap.size, 0, none⟩) [(ts.length : Int)].length 1 (ints [(ts.length : Int)]) := by rw [hW4]; exact Own.lit w3 #[.int .i64 (ts.length : Int)] _ 1 1 w3.heap.size rfl (by simp [maxLen]) (Nat.le_refl _)
  have HL4 : Hid (Lev W4 g sy st B m k A ts.length c 18300) := Lib.hid (Blk.below' HL.out z4)
  have HO4 : Hid (∃ lo, OPs W4 lo A ts.length c ts) := Lib.hid ⟨_, HO.out.below z4⟩
  have HKb4 : Hid (Kb g w3 W4) := Lib.hid (Kb.of_below z4)
  have HW34 : Hid (w3.heap.size ≤ W4.heap.size) := Lib.hid z4.size
  have hg3h := Lib.hid hg3
  have h3h := Lib.hid h3
  clear hW4 z4 x3 hg3 h3
  go_wp2_with fail
  go_loopw [8, 9] (fun v i wr => ∃ (j : Nat) (A' : Option Addr) (c' : Nat) (us : List Pm) (s' : Int) (S : Option Addr) (C : Nat) (xs : List Int), j ≤ D ∧ i = .int .i64 (j : Int) ∧ v = .slice S xs.length C ∧ Own wr w3.heap.size 2 1 S xs.length C (ints xs) ∧ Hid (Lev wr g sy st B m k A' us.length c' s') ∧ Hid (∃ lo, OPs wr lo A' us.length c' us) ∧ Hid (sizesF sy rs D (pas ts) [(ts.length : Int)] = sizesF sy rs (D - j) (pas us) xs) ∧ Hid (∀ x ∈ pas us, PaOk sy st x ∧ x.cs.length ≤ 60) ∧ Hid (300 * (61 - (j : Int)) ≤ s' ∧ s' ≤ 18300) ∧ Hid (us.length ≤ 300) ∧ Hid (xs.length = j + 1) ∧ Hid (Kb g w3 wr) ∧ Hid (w3.heap.size ≤ wr.heap.size)) (fun _ i _ => D - (intOf i).toNat)
  case atStart => exact ⟨0, A, c, ts, 18300, _, 1, [(ts.length : Int)], Nat.zero_le _, rfl, rfl, o4, HL4, HO4, Lib.hid rfl, HOK, Lib.hid (by omega), h3h, Lib.hid rfl, HKb4, HW34⟩
  case round =>
    clear o4
    obtain ⟨j, A', c', us, s', S, C, xs, hj, rfl, rfl, hS, HL1, HO1, HD1, HOK1, HS1, HN1, HX1, HKb3, HSZ⟩ := hrel
    rename World => W0
    have HKb : Hid (Kb g w W0) := Lib.hid ((Kb.of_below HZ3.out).trans HKb3.out)
    have x3 : W0.cell? ⟨g, 3, none⟩ = some (.slice A' us.length c') := HL1.out.cell 3
    by_cases hjD : j < D
    rotate_left
    · have j1 : ¬ (j : Int) < (D : Int) := by omega
      have HE : Hid (R = (xs, 0)) := Lib.hid (by rw [HR2.out, HD1.out, show D - j = 0 by omega]; rfl)
      go_wp2_with fail
      exact bodyPost_ret (v := .tuple #[.slice S xs.length C, .int .i64 0]) (by simp [results, Tryd.results66, go_sem]) rfl (listB HE.out rfl (hS.mono HZ3.out.size) (HKb.out.below (Below.refl _ _) HGL.out))
    have j1 : (j : Int) < (D : Int) := by omega
    by_cases h0 : us.length = 0
    · have z0 : ¬ (0 : Int) < (us.length : Int) := by omega
      have HE : Hid (R = (xs, 0)) := Lib.hid (by rw [HR2.out, HD1.out, show pas us = [] from by rw [List.eq_nil_of_length_eq_zero h0]; rfl, sizesF_empty]; rfl)
      go_wp2_with fail
      exact bodyPost_ret (v := .tuple #[.slice S xs.length C, .int .i64 0]) (by simp [results, Tryd.results66, go_sem]) rfl (listB HE.out rfl (hS.mono HZ3.out.size) (HKb.out.below (Below.refl _ _) HGL.out))
    have z0 : (0 : Int) < (us.length : Int) := by omega
    have HNE : Hid (pas us ≠ []) := Lib.hid (fun h => h0 (by have := congrArg List.length h; simpa [pas] using this))
    have HPL : Hid (((pas us).length : Int) = us.length) := Lib.hid (by simp [pas])
    have HCALL : Hid (Calls Tryd.prog 74 #[.pointer (some ⟨g, 0, none⟩)] W0 (NextPost W0 g sy st B m k rs (pas us) s')) := Lib.hid (by
      obtain ⟨lo1, hO1⟩ := HO1.out
      exact levelNext_any g lo1 sy st B m k rs A' us.length c' us s' W0 HL1.out hO1 (HRW.out.keep fun p hp he => World.cell?_of_block (HKb.out.block p.block hp (fun e => HGB.out (by rw [← he, e])))) HM.out HGB.out HOK1.out (by have := HS1.out; omega) (by have := HN1.out; omega) ((HT.out.below HZ3.out).kb HKb3.out HL.out (by simp)))
    have HJ : Hid (D - j = (D - (j + 1)) + 1) := Lib.hid (by omega)
    have HLE : Hid (((pas us).length : Int) ≤ s') := Lib.hid (by rw [HPL.out]; have := HS1.out; have := HN1.out; omega)
    cases hnx : nextF sy rs (pas us) with
    | none =>
      have HE : Hid (R = ([], 5)) := Lib.hid (by rw [HR2.out, HD1.out, HJ.out, sizesF_full HNE.out hnx]; rfl)
      have HC2 := Lib.hid (HCALL.out.mono fun e w2 h => h.no (.inr hnx))
      clear hnx
      go_wp2_with (go_at_call 74; refine HC2.out.mono ?_; rintro e w2 ⟨rfl, hk2⟩)
      exact bodyPost_ret (v := .tuple #[.slice none 0 0, .int .i64 5]) (by simp [results, Tryd.results66, go_sem]) rfl (listB HE.out rfl Own.nil ((HKb.out.trans hk2).below (Below.refl _ _) HGL.out))
    | some l =>
      have HD2 : Hid (sizesF sy rs D (pas ts) [(ts.length : Int)] = sizesF sy rs (D - (j + 1)) l (xs ++ [(l.length : Int)])) := Lib.hid (by rw [HD1.out, HJ.out, sizesF_next HNE.out hnx])
      have HOK2 := Lib.hid (nextF_ok HM.out HOK1.out hnx)
      have HC2 := Lib.hid (HCALL.out.mono fun e w2 h => h.yes HLE.out hnx)
      clear hnx
      go_upto_region 11 with (go_at_call 74; refine HC2.out.mono ?_; rintro e w2 ⟨A2, c2, ts2, rfl, hL2, hO2, hp2, hk2⟩; have HL2 := Lib.hid hL2; have HO2 := Lib.hid hO2; have HP2 := Lib.hid hp2; clear hL2 hO2 hp2)
      have y3 : w2.cell? ⟨g, 3, none⟩ = some (.slice A2 ts2.length c2) := HL2.out.cell 3
      have hS2 := hk2.own' hS hg3h.out
      have HTL2 : Hid (ts2.length = l.length) := Lib.hid (by rw [← HP2.out]; simp [pas])
      have ht2 : ts2.length ≤ 300 := by have := HOK2.out.2; have := HTL2.out; omega
      have HXL : Hid (xs.length ≤ 61) := Lib.hid (by have := HX1.out; omega)
      have HSZ2 := Lib.hid hk2.size
      clear x3
      go_wp2_with (first
        | (go_at_call 98; refine (sizeP_any _ _ _ _ (by omega)).mono ?_; rintro e w' ⟨rfl, rfl⟩)
        | (at_builtin; refine wpList_append_Own rfl (.tmp 42) (.tmp 48) rfl elI (lo := w3.heap.size) rfl (hS2.alloc _) rfl (Rd.new1 _ (.int .i64 (ts2.length : Int)) _) (by simp [Value.oneCell']) (by have := HXL.out; omega) (by have := HXL.out; simp only [maxLen]; omega) (by have := HSZ.out; have := HSZ2.out; simp; omega) ?_; intro A8 c8 w8 ho8 hg8 hw8))
      have HL8 : Hid (Lev w8 g sy st B m k A2 ts2.length c2 (s' - ((pas us).length : Int))) := Lib.hid (Blk.grown (Blk.alloc HL2.out _) (hS2.alloc _) hg8 (by decide))
      have HO8 : Hid (∃ lo, OPs w8 lo A2 ts2.length c2 ts2) := Lib.hid ⟨_, (HO2.out.alloc _).kept (fun b hb hb2 => hg8.block b hb2 (fun e => by have h1 := hS.blk_lt b e.symm; omega))⟩
      have HK8 : Hid (Kb g w3 w8) := Lib.hid (((HKb3.out.trans hk2).alloc _).grown (hS2.alloc _) (Nat.le_refl _) hg8)
      have HW8 : Hid (w3.heap.size ≤ w8.heap.size) := Lib.hid HK8.out.size
      have HD8 : Hid (sizesF sy rs D (pas ts) [(ts.length : Int)] = sizesF sy rs (D - (j + 1)) (pas ts2) (xs ++ [(ts2.length : Int)])) := Lib.hid (by rw [HD2.out, HP2.out, HTL2.out])
      have HOK8 : Hid (∀ x ∈ pas ts2, PaOk sy st x ∧ x.cs.length ≤ 60) := Lib.hid (by rw [HP2.out]; exact HOK2.out.1)
      have HS8 : Hid (300 * (61 - ((j + 1 : Nat) : Int)) ≤ s' - ((pas us).length : Int) ∧ s' - ((pas us).length : Int) ≤ 18300) := Lib.hid (by have h1 := HS1.out; have h2 := HPL.out; have h3 := HN1.out; omega)
      have HX8 : Hid ((xs ++ [(ts2.length : Int)]).length = j + 1 + 1) := Lib.hid (by simp [HX1.out])
      have ht8 := Lib.hid ht2
      have hlen : (xs ++ [(ts2.length : Int)]).length = xs.length + 1 := by simp
      have HLN := Lib.hid hlen
      rw [ints_snoc] at ho8
      clear hlen hS hS2 hg8 hw8 y3 ht2
      go_wp2_with fail
      go_roundw
      case rel => exact ⟨j + 1, A2, c2, ts2, s' - ((pas us).length : Int), A8, c8, xs ++ [(ts2.length : Int)], by omega, by go_num, by rw [HLN.out], by rw [HLN.out]; exact ho8, HL8, HO8, HD8, HOK8, HS8, ht8, HX8, HK8, HW8⟩
      case measure => simp [intOf]; omega
end Go.Proofs.YtokglpdlhacnaaaDoor

/-
  The program's BackwardLevels, NeverEnters.
-/
namespace Go.Proofs.YtokglpdlhacnaaaDoor
open Go.RowKit

set_option maxRecDepth 100000 in
set_option maxHeartbeats 4000000 in
theorem backwardLevelsI_any (sy st : Int) (B : Option Addr) (m k : Nat) (rs : List R3) (b : Int) (w : World) (hr : S3 w B m rs) (hn : m ≤ 1048576) (ht : Tab w) :
    Calls Tryd.prog 27 #[.agg #[.int .i64 sy, .int .i64 st, .slice B m k], .int .i64 b] w (ListB w (levF sy st rs b)) := by
  obtain ⟨V, hW_⟩ : ∃ W, W = w.alloc (.cells #[.int .i64 sy, .int .i64 st, .slice B m k] 43) := ⟨_, rfl⟩
  have b0 : Blk V w.heap.size 43 #[.int .i64 sy, .int .i64 st, .slice B m k] := by rw [hW_]; exact Blk.new w _ _
  have y0 : Below w.heap.size w V := by rw [hW_]; exact (Below.refl _ _).alloc (Nat.le_refl _) _
  have HV := Lib.hid hW_
  clear hW_
  have q0 : V.cell? ⟨w.heap.size, 0, none⟩ = some (.int .i64 sy) := b0.cell 0
  have q1 : V.cell? ⟨w.heap.size, 1, none⟩ = some (.int .i64 st) := b0.cell 1
  have q2 : V.cell? ⟨w.heap.size, 2, none⟩ = some (.slice B m k) := b0.cell 2
  have HB0 := Lib.hid b0
  have HRW := Lib.hid hr
  have HT := Lib.hid (ht.below y0)
  have HY0 := Lib.hid y0
  have HVM := Lib.hid (validMachine_any sy st B m k rs V (hr.below y0) hn)
  clear b0 y0 hr ht
  go_enter Tryd.func27, Tryd.ntmps27
  go_upto_region 1 with fail
  rw [← HV.out]
  cases hm : machB sy st rs with
  | false =>
    have HE : Hid (levF sy st rs b = ([], 1)) := Lib.hid (by unfold levF; rw [hm]; rfl)
    rw [hm] at HVM
    clear hm
    go_wp2_with (go_at_call 65; refine HVM.out.mono ?_; rintro e w2 ⟨rfl, z2⟩)
    exact bodyPost_ret (v := .tuple #[.slice none 0 0, .int .i64 1]) (by simp [results, Tryd.results27, go_sem]) rfl (listB HE.out rfl Own.nil (HY0.out.trans (z2.mono HY0.out.size)))
  | true =>
    rw [hm] at HVM
    have HM := Lib.hid hm
    clear hm
    go_upto_region 3 with (go_at_call 65; refine HVM.out.mono ?_; rintro e w2 ⟨rfl, z2⟩)
    have HZ2 := Lib.hid (HY0.out.trans (z2.mono HY0.out.size))
    have hb2 := HB0.out.below' z2
    have u0 : w2.cell? ⟨w.heap.size, 0, none⟩ = some (.int .i64 sy) := hb2.cell 0
    have u1 : w2.cell? ⟨w.heap.size, 1, none⟩ = some (.int .i64 st) := hb2.cell 1
    have u2 : w2.cell? ⟨w.heap.size, 2, none⟩ = some (.slice B m k) := hb2.cell 2
    clear q0 q1 q2 hb2
    cases hb : inB b 0 60 with
    | false =>
      have HE : Hid (levF sy st rs b = ([], 2)) := Lib.hid (by unfold levF; rw [HM.out, hb]; rfl)
      have HB := Lib.hid hb
      clear hb
      go_wp2_with (go_at_call 59; refine (within_any _ _ _ _).mono ?_; rintro e w' ⟨rfl, rfl⟩; rw [HB.out])
      exact bodyPost_ret (v := .tuple #[.slice none 0 0, .int .i64 2]) (by simp [results, Tryd.results27, go_sem]) rfl (listB HE.out rfl Own.nil HZ2.out)
    | true =>
      have hb' : 0 ≤ b ∧ b ≤ 60 := by simpa [inB_iff] using hb
      obtain ⟨hb0, hb1⟩ := hb'
      obtain ⟨D, rfl⟩ : ∃ D : Nat, b = (D : Int) := ⟨b.toNat, by omega⟩
      have HE : Hid (levF sy st rs (D : Int) = listR (hpO sy rs fun l => sizesF sy rs D l [(l.length : Int)])) := Lib.hid (by unfold levF; rw [HM.out, hb, Int.toNat_natCast]; rfl)
      have HB := Lib.hid hb
      have HC := Lib.hid (backwardLevels_any sy st B m k rs D _ rfl w2 (HRW.out.below HZ2.out) HM.out (by omega) (HT.out.below z2))
      clear hb
      go_wp2_with (first
        | (go_at_call 59; refine (within_any _ _ _ _).mono ?_; rintro e w' ⟨rfl, rfl⟩; rw [HB.out])
        | (go_at_call 66; refine HC.out.mono ?_; rintro e w4 ⟨A, c, rfl, o4, z4⟩))
      rw [← HE.out] at o4 ⊢
      exact bodyPost_ret (v := .tuple #[.slice A (levF sy st rs (D : Int)).1.length c, .int .i64 (levF sy st rs (D : Int)).2]) (by simp [results, Tryd.results27, go_sem]) rfl ⟨A, c, rfl, o4.mono HZ2.out.size, HZ2.out.trans (z4.mono HZ2.out.size)⟩
set_option maxRecDepth 100000 in
set_option maxHeartbeats 8000000 in
theorem neverEntersI_any (sy st : Int) (B : Option Addr) (m k : Nat) (rs : List R3) (q b : Int) (w : World) (hr : S3 w B m rs) (hn : m ≤ 1048576) (ht : Tab w) :
    Calls Tryd.prog 22 #[.agg #[.int .i64 sy, .int .i64 st, .slice B m k], .int .i64 q, .int .i64 b] w (NumB w (neverF sy st rs q b)) := by
  obtain ⟨V, hW_⟩ : ∃ W, W = w.alloc (.cells #[.int .i64 sy, .int .i64 st, .slice B m k] 43) := ⟨_, rfl⟩
  have b0 : Blk V w.heap.size 43 #[.int .i64 sy, .int .i64 st, .slice B m k] := by rw [hW_]; exact Blk.new w _ _
  have y0 : Below w.heap.size w V := by rw [hW_]; exact (Below.refl _ _).alloc (Nat.le_refl _) _
  have HV := Lib.hid hW_
  clear hW_
  have q0 : V.cell? ⟨w.heap.size, 0, none⟩ = some (.int .i64 sy) := b0.cell 0
  have q1 : V.cell? ⟨w.heap.size, 1, none⟩ = some (.int .i64 st) := b0.cell 1
  have q2 : V.cell? ⟨w.heap.size, 2, none⟩ = some (.slice B m k) := b0.cell 2
  have HB0 := Lib.hid b0
  have HRW := Lib.hid hr
  have HT := Lib.hid (ht.below y0)
  have HY0 := Lib.hid y0
  have HBC := Lib.hid (budgeted_any sy st B m k rs b V (hr.below y0) hn)
  clear b0 y0 hr ht
  go_enter Tryd.func22, Tryd.ntmps22
  go_upto_region 1 with fail
  rw [← HV.out]
  by_cases hc : codeF sy st rs blankC b = 0
  rotate_left
  · have HE : Hid (neverF sy st rs q b = (0, codeF sy st rs blankC b)) := Lib.hid (by unfold neverF; rw [if_neg hc])
    generalize codeF sy st rs blankC b = cd at *
    have j1 : (cd == 0) = false := by rw [beq_eq_false_iff_ne]; exact hc
    clear hc
    go_wp2_with (go_at_call 58; refine HBC.out.mono ?_; rintro e w2 ⟨rfl, z2⟩)
    exact bodyPost_ret (v := .tuple #[.int .i64 0, .int .i64 cd]) (by simp [results, Tryd.results22, go_sem]) rfl (numB HE.out (HY0.out.trans (z2.mono HY0.out.size)))
  rw [hc] at HBC
  have HC := Lib.hid hc
  obtain ⟨hg0, hb1, hb2⟩ := codeF_zero hc
  have hm := good_mach hg0
  have HM := Lib.hid hm
  obtain ⟨p1, p2, p3, p4, _, _⟩ := machB_parts hm
  have w1 : IntKind.i64.wrap (st - 1) = st - 1 := IntWalk.i64_in _ (by omega)
  clear hc hg0 hm
  go_upto_region 4 with (go_at_call 58; refine HBC.out.mono ?_; rintro e w2 ⟨rfl, z2⟩)
  have HZ2 := Lib.hid (HY0.out.trans (z2.mono HY0.out.size))
  have HT2 := Lib.hid (HT.out.below z2)
  have hB2 := HB0.out.below' z2
  have u0 : w2.cell? ⟨w.heap.size, 0, none⟩ = some (.int .i64 sy) := hB2.cell 0
  have u1 : w2.cell? ⟨w.heap.size, 1, none⟩ = some (.int .i64 st) := hB2.cell 1
  have u2 : w2.cell? ⟨w.heap.size, 2, none⟩ = some (.slice B m k) := hB2.cell 2
  clear q0 q1 q2 z2
  cases hq : inB q 0 (st - 1) with
  | false =>
    have HE : Hid (neverF sy st rs q b = (0, 2)) := Lib.hid (by unfold neverF; rw [if_pos HC.out, hq]; rfl)
    have HQ := Lib.hid hq
    clear hq
    go_wp2_with (go_at_call 59; refine (within_any _ _ _ _).mono ?_; rintro e w' ⟨rfl, rfl⟩; rw [HQ.out])
    exact bodyPost_ret (v := .tuple #[.int .i64 0, .int .i64 2]) (by simp [results, Tryd.results22, go_sem]) rfl (numB HE.out HZ2.out)
  | true =>
    have HE : Hid (neverF sy st rs q b = depR (depthF sy rs 60 0 b (stateL sy q))) := Lib.hid (by unfold neverF; rw [if_pos HC.out, hq]; rfl)
    have HQ := Lib.hid hq
    clear hq
    go_upto_region 6 with (go_at_call 59; refine (within_any _ _ _ _).mono ?_; rintro e w' ⟨rfl, rfl⟩; rw [HQ.out])
    clear w1
    obtain ⟨W3, hW_⟩ : ∃ W_, W_ = w2.alloc (.cells #[.int .i64 sy, .int .i64 st, .slice B m k, .slice none 0 0, .int .i64 b] 98) := ⟨_, rfl⟩
    have b3 : Blk W3 w2.heap.size 98 #[.int .i64 sy, .int .i64 st, .slice B m k, .slice none 0 0, .int .i64 b] := by rw [hW_]; exact Blk.new w2 _ _
    have z3 : Below w2.heap.size w2 W3 := by rw [hW_]; exact (Below.refl _ _).alloc (Nat.le_refl _) _
    have HW3 := Lib.hid hW_
    clear hW_
    have o3 : OPs W3 W3.heap.size none ([] : List Pm).length 0 [] := OPs.nil Own.nil
    have HL3 : Hid (Lev W3 w2.heap.size sy st B m k none ([] : List Pm).length 0 b) := Lib.hid b3
    have HZ3 := Lib.hid (HZ2.out.trans (z3.mono HZ2.out.size))
    have HB3 := Lib.hid (hB2.below' z3)
    have HT3 := Lib.hid (HT2.out.below z3)
    have HG3 := Lib.hid b3.lt
    have hW2 : w.heap.size < w2.heap.size := hB2.lt
    obtain ⟨Y, rfl⟩ : ∃ Y : Nat, sy = (Y : Int) := ⟨sy.toNat, by omega⟩
    have v0 : W3.cell? ⟨w.heap.size, 0, none⟩ = some (.int .i64 (Y : Int)) := HB3.out.cell 0
    go_upto_region 7 with fail
    rw [← HW3.out]
    have HL3' := HL3
    have HZ2' := HZ2
    clear u0 u1 u2 b3 z3 hB2
    go_wp2_with fail
    go_loopw [29] (fun i wr => ∃ (j : Nat) (A' : Option Addr) (c' : Nat) (ts : List Pm), j ≤ Y ∧ i = .int .i64 (j : Int) ∧ OPs wr W3.heap.size A' ts.length c' ts ∧ Hid (Lev wr w2.heap.size (Y : Int) st B m k A' ts.length c' b) ∧ Hid (pas ts = (List.range j).map fun s : Nat => (⟨q, 0, [(s : Int)]⟩ : Pa)) ∧ Hid (ts.length = j) ∧ Hid (Kb w2.heap.size W3 wr) ∧ Hid (W3.heap.size ≤ wr.heap.size)) (fun i _ => Y - (intOf i).toNat)
    case atStart => exact ⟨0, none, 0, [], Nat.zero_le _, rfl, o3, HL3, Lib.hid rfl, Lib.hid rfl, Lib.hid (Kb.refl _ _), Lib.hid (Nat.le_refl _)⟩
    case round =>
      clear o3 v0
      obtain ⟨j, A', c', ts, hj, rfl, hO, HL1, HP1, HTL, HKb, HSZ⟩ := hrel
      rename World => W0
      by_cases hlt : j < Y
      · have j1 : (j : Int) < (Y : Int) := by omega
        have x3 : W0.cell? ⟨w2.heap.size, 3, none⟩ = some (.slice A' ts.length c') := HL1.out.cell 3
        have f3 := HL1.out.frozen 3
        have htl : ts.length ≤ 6 := by have := HTL.out; omega
        have hgw : w2.heap.size < W0.heap.size := HL1.out.lt
        go_upto_region 10 with fail
        have hOa := (hO.alloc (.cells #[.int .i64 (j : Int)] 2)).alloc (.cells #[.int .i64 q, .int .i64 0, .slice (some ⟨W0.heap.size, 0, none⟩) 1 1] 58)
        have hwa : Own ((W0.alloc (.cells #[.int .i64 (j : Int)] 2)).alloc (.cells #[.int .i64 q, .int .i64 0, .slice (some ⟨W0.heap.size, 0, none⟩) 1 1] 58)) W0.heap.size 2 1 (some ⟨W0.heap.size, 0, none⟩) 1 1 (ints [(j : Int)]) := (Own.lit W0 #[.int .i64 (j : Int)] _ 1 1 W0.heap.size rfl (by simp [maxLen]) (Nat.le_refl _)).alloc _
        have hla : Hid (Lev ((W0.alloc (.cells #[.int .i64 (j : Int)] 2)).alloc (.cells #[.int .i64 q, .int .i64 0, .slice (some ⟨W0.heap.size, 0, none⟩) 1 1] 58)) w2.heap.size (Y : Int) st B m k A' ts.length c' b) := Lib.hid ((Blk.alloc HL1.out _).alloc _)
        have hka : Hid (Kb w2.heap.size W3 ((W0.alloc (.cells #[.int .i64 (j : Int)] 2)).alloc (.cells #[.int .i64 q, .int .i64 0, .slice (some ⟨W0.heap.size, 0, none⟩) 1 1] 58))) := Lib.hid ((HKb.out.alloc _).alloc _)
        have hrd := Pm.new (W0.alloc (.cells #[.int .i64 (j : Int)] 2)) ⟨q, 0, some ⟨W0.heap.size, 0, none⟩, 1, [(j : Int)]⟩
        have e1 : (W0.alloc (.cells #[.int .i64 (j : Int)] 2)).heap.size = W0.heap.size + 1 := by simp
        rw [e1] at hrd
        clear e1
        go_upto_region 11 with (at_builtin; refine wpList_append_Own rfl (.tmp 36) (.tmp 41) rfl elPart (lo := W3.heap.size) rfl hOa.spine rfl hrd (fun u hu => Pm.one [⟨q, 0, some ⟨W0.heap.size, 0, none⟩, 1, [(j : Int)]⟩] u (by simpa using hu)) (by omega) (by simp only [maxLen]; omega) (by have := HSZ.out; simp; omega) ?_; intro A8 c8 w8 ho8 hg8 hw8; have hL8 : Lev w8 w2.heap.size (Y : Int) st B m k A' ts.length c' b := Blk.grown hla.out hOa.spine hg8 (by decide); have x8 : w8.cell? ⟨w2.heap.size, 3, none⟩ = some (.slice A' ts.length c') := hL8.cell 3; have y3 := hL8.frozen 3; have hgl8 := hL8.lt)
        have HSN : Hid (OPs w8 W3.heap.size A8 (ts.length + 1) c8 (ts ++ [⟨q, 0, some ⟨W0.heap.size, 0, none⟩, 1, [(j : Int)]⟩])) := Lib.hid (OPs.snoc (wa := W0) hO (Nat.le_refl _) hOa ho8 hg8 hwa HSZ.out)
        obtain ⟨W9, hW9⟩ : ∃ W9, W9 = w8.setCell ⟨w2.heap.size, 3, none⟩ (.slice A8 (ts.length + 1) c8) := ⟨_, rfl⟩
        rw [← hW9]
        have HL9 : Hid (Lev W9 w2.heap.size (Y : Int) st B m k A8 (ts.length + 1) c8 b) := Lib.hid (by rw [hW9]; exact hL8.set_ 3 _)
        have hO9 : OPs W9 W3.heap.size A8 (ts.length + 1) c8 (ts ++ [⟨q, 0, some ⟨W0.heap.size, 0, none⟩, 1, [(j : Int)]⟩]) := by rw [hW9]; exact HSN.out.set_far HG3.out _
        have HK9 : Hid (Kb w2.heap.size W3 W9) := Lib.hid (by rw [hW9]; exact (hka.out.grown hOa.spine (Nat.le_refl _) hg8).set_ 3 _)
        have HW9 := Lib.hid HK9.out.size
        have HP9 : Hid (pas (ts ++ [⟨q, 0, some ⟨W0.heap.size, 0, none⟩, 1, [(j : Int)]⟩]) = (List.range (j + 1)).map fun s : Nat => (⟨q, 0, [(s : Int)]⟩ : Pa)) := Lib.hid (by rw [stateL_next, ← HP1.out]; simp [pas, Pm.pa])
        have hlen : (ts ++ [(⟨q, 0, some ⟨W0.heap.size, 0, none⟩, 1, [(j : Int)]⟩ : Pm)]).length = ts.length + 1 := by simp
        have HLN := Lib.hid hlen
        have HTL9 : Hid ((ts ++ [(⟨q, 0, some ⟨W0.heap.size, 0, none⟩, 1, [(j : Int)]⟩ : Pm)]).length = j + 1) := Lib.hid (by rw [hlen, HTL.out])
        clear hlen hW9 hO hOa hwa hrd hw8 hg8 ho8 hL8 x8 y3 x3 f3
        go_wp2_with fail
        go_roundw
        case rel => exact ⟨j + 1, A8, c8, ts ++ [⟨q, 0, some ⟨W0.heap.size, 0, none⟩, 1, [(j : Int)]⟩], by omega, by go_num, by rw [HLN.out]; exact hO9, by rw [HLN.out]; exact HL9, HP9, HTL9, HK9, HW9⟩
        case measure => simp [intOf]; omega
      · obtain rfl : j = Y := by omega
        have j1 : ¬ (j : Int) < (j : Int) := by omega
        have hps : pas ts = stateL (j : Int) q := by rw [HP1.out]; unfold stateL; rw [Int.toNat_natCast]
        have HKW : Hid (Kb w2.heap.size w W0) := Lib.hid ((Kb.of_below HZ3.out).trans HKb.out)
        have HGB : Hid (blk B ≠ some w2.heap.size) := Lib.hid (fun h => by have h1 := mach_blk HRW.out HM.out _ h; omega)
        have HFE : Hid (Calls Tryd.prog 60 #[.pointer (some ⟨w2.heap.size, 0, none⟩)] W0 (NumP W0 w2.heap.size (depR (depthF (j : Int) rs 60 0 b (pas ts))))) := Lib.hid (firstEmpty_any w2.heap.size _ (j : Int) st B m k rs A' _ c' ts b W0 HL1.out hO (HRW.out.keep fun p hp he => World.cell?_of_block (HKW.out.block p.block hp (fun e => HGB.out (by rw [← he, e])))) HM.out HGB.out (fun x hx => stateL_ok HQ.out x (by rw [← hps]; exact hx)) (by omega) (by have := HTL.out; omega) (HT3.out.kb HKb.out HL3'.out (by simp)))
        have HE2 : Hid (neverF (j : Int) st rs q b = depR (depthF (j : Int) rs 60 0 b (pas ts))) := Lib.hid (by rw [HE.out, hps])
        have hwg : Hid (w.heap.size ≤ w2.heap.size) := Lib.hid (by omega)
        clear hps hO
        go_wp2_with (go_at_call 60; refine HFE.out.mono ?_; rintro e w4 ⟨rfl, k4⟩)
        exact bodyPost_ret (v := .tuple #[.int .i64 (depR (depthF (j : Int) rs 60 0 b (pas ts))).1, .int .i64 (depR (depthF (j : Int) rs 60 0 b (pas ts))).2]) (by simp [results, Tryd.results22, go_sem]) rfl (numB HE2.out ((HKW.out.trans k4).below (Below.refl _ _) hwg.out))
end Go.Proofs.YtokglpdlhacnaaaDoor
