/-
  Contract of impl.TraceTag.
-/
import Derived.Test.YtfdbhlhlhjdpbaaPkCyclicTags3
import Derived.Test.YtfdbhlhlhjdpbaaPkCyclicTags4
import Derived.Test.YtfdbhlhlhjdpbaaPkCyclicTags5
import Derived.RangeFuncNested
import Derived.RangeFuncBound
import Derived.RangeFuncCalls
import Derived.RangeFuncLeaves
import Derived.Shelf.Abstract
import Derived.Shelf.RegionOpen
import Derived.OwnWalkIn
import Derived.TacticsInMore
import Derived.LoopNIn
import Derived.LoopIn
import Derived.BigRegionIn
import Derived.BigRegion
namespace Go.Proofs.Ytfdbhlhlhjdpbaa
open Go.RowKit

/-- What TraceTag's own cells hold ahead of round i. -/
def trtD (s : Sys (List Int)) (xs : List Int) (lo b9 i : Nat) (X : Nat → Prop) (W : World) : Prop :=
  X b9 ∧ ∃ A a us, Blk W b9 24 #[.slice A i a] ∧ OII W lo 25 2 A i a us ∧ nums us = wordsTo s xs i ∧ (∀ b, OIIB A us b → X b)
theorem trtD_fr (s : Sys (List Int)) (xs : List Int) (lo b9 i : Nat) : FrD (trtD s xs lo b9 i) := by
  rintro X W W' ⟨x9, A, a, us, h9, ho, hn, hX⟩ hf
  exact ⟨x9, A, a, us, h9.fr hf x9, ho.keptB (fun b hb => hf.same b (hX b hb) (ho.blkB b hb).2), hn, hX⟩

set_option maxRecDepth 100000 in
set_option maxHeartbeats 4000000 in
theorem traceTagI_any (d : Int) (A : Option Addr) (n c : Nat) (ts : List Sl) (B : Option Addr) (m k : Nat) (hs : List Int) (C : Option Addr) (l r : Nat) (xs : List Int) (b : Int) (w : World) (hx : SII w A n ts) (hy : SI w B m hs) (hz : SI w C l xs) (hn : n ≤ 1048576) (hm : m ≤ 1048576) (hns : ∀ t ∈ ts, t.xs.length ≤ 1048576) (hl : l ≤ 1048576) :
    Calls Try.prog 10 #[.agg #[.int .i64 d, .slice A n c, .slice B m k], .slice C l r, .int .i64 b] w (NewII w (traceTagF d (nums ts) hs xs b)) := by
  obtain ⟨W, hW_⟩ : ∃ W, W = w.alloc (.cells #[.int .i64 d, .slice A n c, .slice B m k] 27) := ⟨_, rfl⟩
  have b0 : Blk W w.heap.size 27 #[.int .i64 d, .slice A n c, .slice B m k] := by rw [hW_]; exact Blk.new w _ _
  have y0 : Below w.heap.size w W := by rw [hW_]; exact (Below.refl _ _).alloc (Nat.le_refl _) _
  have HW := Lib.hid hW_
  clear hW_
  have q0 : W.cell? ⟨w.heap.size, 0, none⟩ = some (.int .i64 d) := b0.cell 0
  have q1 : W.cell? ⟨w.heap.size, 1, none⟩ = some (.slice A n c) := b0.cell 1
  have q2 : W.cell? ⟨w.heap.size, 2, none⟩ = some (.slice B m k) := b0.cell 2
  have HNS := Lib.hid hns
  clear hns
  go_enter Try.func10, Try.ntmps10
  go_wp2_with fail
  rw [← HW.out]
  refine (tagCode_any _ _ _ _ ts _ _ _ hs _ _ _ xs _ (hx.below y0) (hy.below y0) (hz.below y0) hn hm hl (fun t ht => by have := HNS.out t ht; omega)).mono ?_
  rintro e w2 ⟨rfl, hb2⟩
  have y2 := y0.trans (hb2.mono y0.size)
  have b2 := b0.below' hb2
  clear q0 q1 q2
  rcases tagCode_01 d (nums ts) hs xs with hcode | hcode
  rotate_left
  · have HF := Lib.hid (traceTagF_bad (b := b) hcode)
    rw [hcode]
    clear hcode
    go_wp2_with fail
    exact bodyPost_ret (v := .tuple #[.slice none 0 0, .int .i64 1]) (by simp [results, Try.results10, go_sem]) rfl (newII_nil HF.out y2)
  have HC := Lib.hid hcode
  rw [hcode]
  clear hcode
  cases a2 : inB b 0 60
  · have HF := Lib.hid (traceTagF_range HC.out a2)
    have A2 := Lib.hid a2
    clear a2
    go_wp2_with (go_at_call 41; refine (within_is A2.out _).mono ?_; rintro e w' ⟨rfl, rfl⟩)
    exact bodyPost_ret (v := .tuple #[.slice none 0 0, .int .i64 2]) (by simp [results, Try.results10, go_sem]) rfl (newII_nil HF.out y2)
  have A2 := Lib.hid a2
  have hb := (inB_iff _ _ _).1 a2
  obtain ⟨N, rfl⟩ : ∃ N : Nat, b = (N : Int) := ⟨b.toNat, by omega⟩
  clear a2
  obtain ⟨w3, hW_⟩ : ∃ W, W = (w2.alloc (.cells #[] 25)).alloc (.cells #[.slice (some ⟨w2.heap.size, 0, none⟩) 0 0] 24) := ⟨_, rfl⟩
  have s_1 : (w2.alloc (.cells #[] 25)).heap.size = w2.heap.size + 1 := by simp
  have e1 : Blk w3 w2.heap.size 25 #[] := by rw [hW_]; exact (Blk.new w2 _ _).alloc _
  have e2 : Blk w3 (w2.heap.size + 1) 24 #[.slice (some ⟨w2.heap.size, 0, none⟩) 0 0] := by rw [hW_, ← s_1]; exact Blk.new _ _ _
  have y3 : Below w2.heap.size w2 w3 := by rw [hW_]; exact ((Below.refl _ _).alloc (Nat.le_refl _) _).alloc (by simp) _
  have Hw3 := Lib.hid hW_
  clear hW_ s_1
  have b2l := b2.lt
  have q0 : w2.cell? ⟨w.heap.size, 0, none⟩ = some (.int .i64 d) := b2.cell 0
  have q1 : w2.cell? ⟨w.heap.size, 1, none⟩ = some (.slice A n c) := b2.cell 1
  have q2 : w2.cell? ⟨w.heap.size, 2, none⟩ = some (.slice B m k) := b2.cell 2
  go_wp2_with (go_at_call 41; refine (within_is A2.out _).mono ?_; rintro e w' ⟨rfl, rfl⟩)
  rw [← Hw3.out]
  have y23 := y2.trans (y3.mono y2.size)
  refine (tagRunOf_any _ _ _ _ _ _ _ _ _ _ xs _ (hz.below y23) hl).mono ?_
  rintro e w4 ⟨g, Q, r3, rfl, hg3, hr3, ho3, hb3⟩
  have e14 := e1.below' hb3
  have e24 := e2.below' hb3
  have hs3 : w2.heap.size + 1 < w3.heap.size := e2.lt
  clear q0 q1 q2
  obtain ⟨p, hp⟩ : ∃ p : Tg, p = ⟨w2, g, d, A, n, c, ts, B, m, k, hs, xs⟩ := ⟨_, rfl⟩
  have hok : p.Ok := by rw [hp]; exact ⟨HC.out, hx.below y2, hy.below y2, by show w2.heap.size ≤ g; omega, hn, hm⟩
  have h0 : TgS p 0 (trtD p.sys p.xs w2.heap.size (w2.heap.size + 1) 0) w4 := by
    rw [hp]
    refine ⟨_, Q, r3, fun b => b = w2.heap.size ∨ b = w2.heap.size + 1, rfl, ⟨?_, ?_, hr3, ho3.mono (by show w2.heap.size ≤ _; omega), ?_, y3.trans (hb3.mono y3.size)⟩, .inr rfl, _, 0, [], e24, OII.nil ?_, rfl, ?_⟩
    · show ¬ (g = w2.heap.size ∨ g = w2.heap.size + 1); omega
    · rintro b (h | h) <;> have := hb3.size <;> omega
    · intro b hb h
      have h9 := ho3.blk_ge b hb
      rcases h with h | h <;> omega
    · exact ⟨by simp, .inr ⟨w2.heap.size, 0, #[], rfl, Nat.le_refl _, e14, Nat.le_refl _, by simp [maxLen], by simp, fun k hk => by simp at hk⟩⟩
    · rintro b (hb | ⟨t, ht, _⟩)
      · simp [blk] at hb; exact .inl hb.symm
      · simp at ht
  have hvis : ∀ i u W, i ≤ N → p.sys.Alive p.xs i → TgV p i (trtD p.sys p.xs w2.heap.size (w2.heap.size + 1) i) u W → Calls Try.prog 44 (#[u] ++ #[.pointer (some ⟨w2.heap.size + 1, 0, none⟩)]) W fun e W' => e = .returned (.bool true) ∧ TgS p i (trtD p.sys p.xs w2.heap.size (w2.heap.size + 1) (i + 1)) W' := by
    rintro i u W hiN hal ⟨Q', r', X, rfl, hO, x9, A', a', us, h9, ho, hnu, hX⟩
    have hlen := (tagCode_parts (tagAlive_good hok.code hal)).2.2.2.1
    have hpw : p.w0 = w2 := by rw [hp]
    have hW : w2.heap.size ≤ W.heap.size := by have := hO.low.size; rwa [hpw] at this
    refine (traceVisit_any Q' (p.it i).length r' (w2.heap.size + 1) w2.heap.size i a' A' us (p.it i) W h9 ho hO.own.rd (by have : (p.it i).length ≤ 1000 := hlen; omega) (by omega) hW).mono ?_
    rintro e W' ⟨A8, a8, v, he, hb8, ho8, hxs, hK, hA8, hv8⟩
    have hsz := hK.size
    refine ⟨he, _, Q', r', _, rfl, hO.turn hK ?_, .inl x9, A8, a8, us ++ [v], hb8, ho8, ?_, ?_⟩
    · rintro b (hb | hb)
      · subst hb; exact ⟨x9, by rw [hpw]; omega⟩
      · exact ⟨hX b (.inl hb), by rw [hpw]; exact ho.1.blk_ge b hb⟩
    · rw [wordsTo_next, nums_append, hnu, hxs]
    · rintro b (hb | ⟨t, ht, hb⟩)
      · rcases hA8 b hb with h | h
        · exact .inl (hX b (.inl h))
        · exact .inr ⟨h, ho8.1.blk_lt b hb⟩
      · rcases List.mem_append.1 ht with h | h
        · exact .inl (hX b (.inr ⟨t, h, hb⟩))
        · rw [List.mem_singleton.1 h] at hb
          exact .inr ⟨hv8 b hb, (ho8.2.1 v (by simp)).blk_lt b hb⟩
  have hrun := runTagSys p hok N 44 #[.pointer (some ⟨w2.heap.size + 1, 0, none⟩)] (fun _ => true) (trtD p.sys p.xs w2.heap.size (w2.heap.size + 1)) (trtD_fr _ _ _ _) w4 (by omega) Try.call44 hvis h0
  have hpg : p.g = g := by rw [hp]
  rw [hpg] at hrun
  have HRUN := Lib.hid hrun
  have HP := Lib.hid hp
  clear hrun hp h0 hpg hok hvis
  go_wp2_with fail
  refine HRUN.out.mono ?_
  rintro e w5 (⟨i, hi, hal, _, hend, rfl, ⟨u, Q4, r4, X, _, ho, _, A', a', us, h9, hO, hnu, _⟩⟩ | ⟨i, hi, hal, _, hh, hro, rfl, hF⟩)
  · have hen : (tagSys d (nums ts) hs).Ended xs N i := by
      rw [HP.out] at hal hend
      refine ⟨hi, hal, ?_⟩
      rcases hend with h | h | h
      · cases h
      · exact .inl h
      · exact .inr h
    have HF := Lib.hid (traceTagF_ended HC.out A2.out hen)
    have hlow : Below w2.heap.size w2 w5 := by have := ho.low; rwa [HP.out] at this
    have HNU : Hid (nums us = wordsTo (tagSys d (nums ts) hs) xs (i + 1)) := Lib.hid (by rw [hnu, HP.out])
    have c9 : w5.cell? ⟨w2.heap.size + 1, 0, none⟩ = some (.slice A' (i + 1) a') := h9.cell 0
    have y4 := y2.trans (hlow.mono y2.size)
    clear ho hal hend hen hnu
    go_wp2_with fail
    exact bodyPost_ret (v := .tuple #[.slice A' (i + 1) a', .int .i64 0]) (by simp [results, Try.results10, go_sem]) rfl (newII_of HF.out HNU.out (hO.mono y2.size) y4)
  · have hfu : (tagSys d (nums ts) hs).Full xs N i := by
      rw [HP.out] at hal hh hro
      exact ⟨hi, hal, hh, hro⟩
    have HF := Lib.hid (traceTagF_full HC.out A2.out hfu)
    have hlow : Below w2.heap.size w2 w5 := by have := hF; rwa [HP.out] at this
    clear hal hh hro hfu
    go_wp2_with fail
    exact bodyPost_ret (v := .tuple #[.slice none 0 0, .int .i64 5]) (by simp [results, Try.results10, go_sem]) rfl (newII_nil HF.out (y2.trans (hlow.mono y2.size)))
end Go.Proofs.Ytfdbhlhlhjdpbaa

/-
  Contracts of slices.Index and impl.countOf.
-/
namespace Go.Proofs.Ytfdbhlhlhjdpbaa
open Go.RowKit

set_option maxHeartbeats 1000000 in
theorem indexI_at (A : Option Addr) (n c : Nat) (xs : List Int) (v : Int) (k : Nat) (w : World) (hx : SI w A n xs) (hn : n ≤ 1048576) (hk : xs[k]? = some v) (hlt : ∀ j y, j < k → xs[j]? = some y → y ≠ v) :
    Calls Try.prog 103 #[.slice A n c, .int .i64 v] w fun e w' => e = .returned (.int .i64 (k : Int)) ∧ w = w' := by
  have HL := Lib.hid hx.len
  have HK := Lib.hid hk
  have HLT := Lib.hid hlt
  have hkn : k < n := by have := (List.getElem?_eq_some_iff.1 hk).1; have := HL.out; omega
  clear hk hlt
  go_enter Try.func103, Try.ntmps103
  go_wp2
  go_loop [8] (fun i => ∃ j : Nat, j ≤ k ∧ i = .int .i64 (j : Int)) (fun i => n - (intOf i).toNat)
  case atStart => exact ⟨0, by omega, rfl⟩
  case round =>
    obtain ⟨j, hj, rfl⟩ := hrel
    have hjn : j < n := by omega
    obtain ⟨b, off, rfl, _, hc⟩ := hx.at_ hjn
    obtain ⟨y, hy⟩ : ∃ y, y = xs[j]'(by rw [HL.out]; exact hjn) := ⟨_, rfl⟩
    have hyq : xs[j]? = some y := by rw [hy]; exact List.getElem?_eq_getElem _
    rw [← hy] at hc
    by_cases hjk : j = k
    · subst hjk
      obtain rfl : y = v := by rw [HK.out] at hyq; simpa using hyq.symm
      have hd : (y == y) = true := by simp
      clear hy hyq
      go_wp2
      go_ret
      exact ⟨rfl, rfl⟩
    · have hne := HLT.out j y (by omega) hyq
      have hd : (v == y) = false := by simp; exact fun e => hne e.symm
      clear hy hyq hne
      go_wp2
      exact ⟨⟨j + 1, by omega, by go_num⟩, by simp [intOf]; omega⟩

set_option maxHeartbeats 1000000 in
theorem countOf_any (A : Option Addr) (n c : Nat) (xs : List Int) (v : Int) (w : World) (hx : SI w A n xs) (hn : n ≤ 1048576) :
    Calls Try.prog 104 #[.slice A n c, .int .i64 v] w fun e w' => e = .returned (.int .i64 (xs.count v : Int)) ∧ w = w' := by
  have HL := Lib.hid hx.len
  go_enter Try.func104, Try.ntmps104
  go_wp2
  go_loop [5, 10] (fun t i => ∃ j q : Nat, j ≤ n ∧ i = .int .i64 (j : Int) ∧ t = .int .i64 (q : Int) ∧ Hid (q = (xs.take j).count v) ∧ q ≤ j) (fun _ i => n - (intOf i).toNat)
  case atStart => exact ⟨0, 0, by omega, rfl, rfl, by simp [Hid], by omega⟩
  case round =>
    obtain ⟨j, q, hj, rfl, rfl, hq, hqj⟩ := hrel
    by_cases hjn : j < n
    · obtain ⟨b, off, rfl, _, hc⟩ := hx.at_ hjn
      obtain ⟨y, hy⟩ : ∃ y, y = xs[j]'(by rw [HL.out]; exact hjn) := ⟨_, rfl⟩
      have HN := Lib.hid (show (xs.take (j + 1)).count v = (xs.take j).count v + if y = v then 1 else 0 by
        rw [List.take_succ_eq_append_getElem (by rw [HL.out]; exact hjn), List.count_append, ← hy]
        by_cases h : y = v <;> simp [h])
      rw [← hy] at hc
      clear hy
      by_cases hyv : y = v
      · have hd : (y == v) = true := by simpa using hyv
        have HQ : Hid (q + 1 = (xs.take (j + 1)).count v) := Lib.hid (by rw [HN.out, if_pos hyv, hq.out])
        clear hyv
        go_wp2
        exact ⟨⟨j + 1, q + 1, by omega, by go_num, by go_num, HQ.out, by omega⟩, by simp [intOf]; omega⟩
      · have hd : (y == v) = false := by simpa using hyv
        have HQ : Hid (q = (xs.take (j + 1)).count v) := Lib.hid (by rw [HN.out, if_neg hyv, hq.out]; rfl)
        clear hyv
        go_wp2
        exact ⟨⟨j + 1, q, by omega, by go_num, rfl, HQ.out, by omega⟩, by simp [intOf]; omega⟩
    · have HQ : Hid (q = xs.count v) := Lib.hid (by have := hq.out; rwa [List.take_of_length_le (by rw [HL.out]; omega)] at this)
      go_wp2
      go_ret
      exact ⟨ret_int (by rw [HQ.out]), rfl⟩
theorem unit_index {n x0 : Nat} (h : x0 < n) : (unitL n x0)[x0]? = some 1 ∧ ∀ j y, j < x0 → (unitL n x0)[j]? = some y → y ≠ 1 := by
  constructor
  · simp [unitL, h]
  · intro j y hj hy
    have : (unitL n x0)[j]? = some 0 := by simp [unitL, show j < n from by omega, show ¬ j = x0 from by omega]
    rw [this] at hy
    simp at hy
    omega
theorem unit_count {n x0 : Nat} (h : x0 < n) : (unitL n x0).count 1 = 1 := by
  have key : ∀ n, (unitL n x0).count 1 = if x0 < n then 1 else 0 := by
    intro n
    induction n with
    | zero => simp [unitL]
    | succ n ih =>
      have e : unitL (n + 1) x0 = unitL n x0 ++ [if n = x0 then 1 else 0] := by unfold unitL; rw [List.range_succ]; simp
      rw [e, List.count_append, ih]
      by_cases h1 : x0 < n
      · simp [h1, show ¬ n = x0 from by omega, show x0 < n + 1 from by omega]
      · by_cases h2 : n = x0
        · subst h2; simp
        · simp [h1, h2, show ¬ x0 < n + 1 from by omega]
  rw [key, if_pos h]
end Go.Proofs.Ytfdbhlhlhjdpbaa

/-
  A range over a function whose iterator keeps state of its own in cells: the caller's law. No program is in sight.
-/
namespace Go.Proofs.Ytfdbhlhlhjdpbaa
open Go.RowKit

variable {F : Fence} {n : Nat} {P : Program}

/-- The contract of an iterator. J x: where yield is called with x. J' x: behind a round that goes on. Jx c x: behind a round that left by c. B, Bx: the loop's own book-keeping. -/
def SeqC {α : Type} (F : Fence) (n : Nat) (P : Program) (g : Nat) (lb : Array Value) (encs : α → Array Value) (J J' : α → World → Prop) (Jx : Code → α → World → Prop) (Start Fin : World → Prop) (FinX : Code → World → Prop) : Prop :=
  ∀ (l : Nat) (B : World → Prop) (Bx : Code → World → Prop), (∀ W W', B W → KeepsOthers W W' → B W') → (∀ c W W', Bx c W → KeepsOthers W W' → Bx c W') →
    (∀ x W, J x W → B W → YieldAt F (n - 1) P l (encs x) W fun e W' => (e = .returned (.bool true) ∧ J' x W' ∧ B W') ∨ (e = .returned (.bool false) ∧ ∃ c, Jx c x W' ∧ Bx c W')) →
    ∀ W, Start W → B W → CallsIn F n P g (#[.func (.yield l) #[] #[]] ++ lb) W fun e W' => (∃ v, e = .returned v) ∧ ((Fin W' ∧ B W') ∨ (∃ c, FinX c W' ∧ Bx c W'))

def stPost {α : Type} (J' : α → World → Prop) (Jx : Code → α → World → Prop) (x : α) (W : World) : Exit → Act → World → Prop
  | .normal, _, W' => KeepsOthers W W' ∧ J' x W'
  | .ret, _, W' => KeepsOthers W W' ∧ Jx .ret x W'
  | .exit id, _, W' => KeepsOthers W W' ∧ Jx (.exit id) x W'
  | .goto t, _, W' => KeepsOthers W W' ∧ Jx (.goto t) x W'
  | .panic _, _, _ => False
  | .outgrown, _, _ => False

/-- A word that abides a turn of a block that holds no cells. -/
def PutOk (b0 : Nat) (I : World → Prop) : Prop := ∀ (W : World) (l : Nat) (o o' : Obj), I W → b0 ≤ l → W.heap[l]? = some o → o.isCells = false → I (W.putObj l o')

theorem keeps_loop {W W' : World} {l : Nat} {o : Obj} (h : KeepsOthers W W') (hl : W.heap[l]? = some o) (ho : o.isCells = false) : W'.heap[l]? = some o := h.same l o hl ho

theorem wpIn_rangeFunc_st {α : Type} {g : Operand} {ps : Array Tmp} {assign body : Code} {Q : Exit → Act → World → Prop} {a : Act} {w : World}
    (hro : F.round = none) (h1 : 1 ≤ n) {gf : Nat} {lb : Array Value} (hg : a.eval g = .func (.func gf) #[] lb) (hFg : F.fn gf) (eg : ∀ args w, (callFunc gf args).run P w = .ok (.enter gf args) w)
    {encs : α → Array Value} {J J' : α → World → Prop} {Jx : Code → α → World → Prop} {Start Fin : World → Prop} {FinX : Code → World → Prop} (hseq : SeqC F (n - 1) P gf lb encs J J' Jx Start Fin FinX)
    (hps : ∀ x, (encs x).size = ps.size) (hJ : ∀ x, PutOk w.heap.size (J x)) (hJ' : ∀ x, PutOk w.heap.size (J' x)) (hJx : ∀ c x, PutOk w.heap.size (Jx c x)) (hFin : PutOk w.heap.size Fin) (hFinX : ∀ c, PutOk w.heap.size (FinX c))
    (hstart : ∀ r, Start ((w.alloc (.deferred (some []))).alloc (.loop r))) (a₁ : α → Act)
    (hassign : ∀ (l : Nat) (x : α) (W : World) (K : Act → World → Prop), K (a₁ x) W →
      assign.wpIn (F.inRound l) (n - 1 - 1) P (Exit.then K (fun _ _ _ => False)) { tmps := (ps.zip (encs x)).foldl (fun t (p, v) => t.setIfInBounds p v) a.tmps, defers := [] } W)
    (hbody : ∀ (l : Nat) (x : α) (W : World), w.heap.size ≤ l → J x W → body.wpIn (F.inRound l) (n - 1 - 1) P (stPost J' Jx x W) (a₁ x) W)
    (hdone : ∀ (D : Nat) (W : World), w.heap.size ≤ D → Fin W → W.heap[D]? = some (.deferred (some [])) → Q .normal { a with defers := { target := .collected D, args := #[] } :: a.defers } W)
    (hstop : ∀ (D : Nat) (c : Code) (W : World), w.heap.size ≤ D → FinX c W → W.heap[D]? = some (.deferred (some [])) → c.wpIn F n P Q { a with defers := { target := .collected D, args := #[] } :: a.defers } W) :
    (Code.rangeFunc g ps assign body).wpIn F n P Q a w := by
  refine wpIn_rangeFunc ?_
  intro fn hfn
  rw [hro]
  obtain ⟨rec, hrec⟩ : ∃ rec : LoopState → Option Code → Loop, rec = fun st pe => { state := st, pending := pe, fn, tmps := a.tmps, params := ps, assign, body, defers := w.heap.size } := ⟨_, rfl⟩
  obtain ⟨W1, hW1⟩ : ∃ W1, (w.alloc (.deferred (some []))).alloc (.loop (rec .ready none)) = W1 := ⟨_, rfl⟩
  have hL1 : W1.heap[w.heap.size + 1]? = some (.loop (rec .ready none)) := by
    rw [← hW1]; have := World.alloc_heap_new (w.alloc (.deferred (some []))) (.loop (rec .ready none)); rwa [World.size_alloc] at this
  have hK1 : W1.heap[w.heap.size]? = some (.deferred (some [])) := by
    rw [← hW1]; exact (Below.heap_alloc _ _ _ (by simp)).trans (World.alloc_heap_new w _)
  have hS1 : Start W1 := by rw [← hW1]; exact hstart _
  refine ⟨w.heap.size + 1, [{ target := .collected w.heap.size, args := #[] }], W1, { target := .fn (.func gf) lb, args := #[.func (.yield (w.heap.size + 1)) #[] #[]] }, W1, gf,
    #[.func (.yield (w.heap.size + 1)) #[] #[]] ++ lb, W1, ?_, ?_, ?_, ?_, fun _ => h1, ?_⟩
  · rw [← hW1, hrec]; exact run_enterLoop_outer _ _ _ _ _
  · simp only [resolve, hg]
    simp [go_sem]
  · intro f' hf'; simp [Target.leads] at hf'; subst hf'; exact hFg
  · simp [invoke, go_sem, eg]
  · refine (hseq (w.heap.size + 1)
      (fun W => W.heap[w.heap.size + 1]? = some (.loop (rec .ready none)) ∧ W.heap[w.heap.size]? = some (.deferred (some [])))
      (fun c W => W.heap[w.heap.size + 1]? = some (.loop (rec .done (some c))) ∧ W.heap[w.heap.size]? = some (.deferred (some [])))
      (fun W W' h k => ⟨keeps_loop k h.1 rfl, keeps_loop k h.2 rfl⟩) (fun c W W' h k => ⟨keeps_loop k h.1 rfl, keeps_loop k h.2 rfl⟩) ?_ W1 hS1 ⟨hL1, hK1⟩).mono ?_
    · rintro x W hi ⟨hl, hk⟩
      have hlt : w.heap.size + 1 < W.heap.size := (Array.getElem?_eq_some_iff.1 hl).1
      have hy := run_yield (P := P) (args := encs x) hl (by rw [hrec]; exact hps x)
      rw [hrec] at hy
      refine ⟨fn, _, assign, body, hy, roundIn_of_wpIn hfn (hassign _ x W _ ⟨_, run_beginRound hl (by rw [hrec]), ?_⟩)⟩
      have hl2 : (W.putObj (w.heap.size + 1) (.loop { rec .ready none with state := .busy })).heap[w.heap.size + 1]? = some (.loop { rec .ready none with state := .busy }) := World.putObj_heap_same hlt
      have hk2 : (W.putObj (w.heap.size + 1) (.loop { rec .ready none with state := .busy })).heap[w.heap.size]? = some (.deferred (some [])) := (World.putObj_heap_other (by omega)).trans hk
      refine wpIn_mono (hbody _ x _ (by omega) (hJ x _ _ _ _ hi (by omega) hl rfl)) ?_
      have fin : ∀ (jump : Option Code) (W3 : World), KeepsOthers (W.putObj (w.heap.size + 1) (.loop { rec .ready none with state := .busy })) W3 →
          (Instr.endRound (w.heap.size + 1) jump).run P W3 = .ok (.bool jump.isNone) (W3.putObj (w.heap.size + 1) (.loop (rec (if jump.isNone then .ready else .done) jump))) ∧
          W3.heap[w.heap.size + 1]? = some (.loop { rec .ready none with state := .busy }) ∧
          (W3.putObj (w.heap.size + 1) (.loop (rec (if jump.isNone then .ready else .done) jump))).heap[w.heap.size + 1]? = some (.loop (rec (if jump.isNone then .ready else .done) jump)) ∧
          (W3.putObj (w.heap.size + 1) (.loop (rec (if jump.isNone then .ready else .done) jump))).heap[w.heap.size]? = some (.deferred (some [])) := fun jump W3 hk3 => by
        have hl3 := hk3.same _ _ hl2 rfl
        have := run_endRound (P := P) jump hl3
        rw [hrec] at this ⊢
        exact ⟨this, by rw [hrec] at hl3; exact hl3, World.putObj_heap_same (Array.getElem?_eq_some_iff.1 hl3).1, (World.putObj_heap_other (by omega)).trans (hk3.same _ _ hk2 rfl)⟩
      rintro e a3 W3 hp
      cases e with
      | normal =>
        obtain ⟨hk3, hi3⟩ := hp
        obtain ⟨hr, hl3, hl4, hk4⟩ := fin none W3 hk3
        exact ⟨_, _, hr, .inl ⟨rfl, hJ' x _ _ _ _ hi3 (by omega) hl3 rfl, hl4, hk4⟩⟩
      | ret =>
        obtain ⟨hk3, hi3⟩ := hp
        obtain ⟨hr, hl3, hl4, hk4⟩ := fin (some .ret) W3 hk3
        exact ⟨_, _, hr, .inr ⟨rfl, .ret, hJx _ x _ _ _ _ hi3 (by omega) hl3 rfl, hl4, hk4⟩⟩
      | exit id =>
        obtain ⟨hk3, hi3⟩ := hp
        obtain ⟨hr, hl3, hl4, hk4⟩ := fin (some (.exit id)) W3 hk3
        exact ⟨_, _, hr, .inr ⟨rfl, .exit id, hJx _ x _ _ _ _ hi3 (by omega) hl3 rfl, hl4, hk4⟩⟩
      | goto t =>
        obtain ⟨hk3, hi3⟩ := hp
        obtain ⟨hr, hl3, hl4, hk4⟩ := fin (some (.goto t)) W3 hk3
        exact ⟨_, _, hr, .inr ⟨rfl, .goto t, hJx _ x _ _ _ _ hi3 (by omega) hl3 rfl, hl4, hk4⟩⟩
      | panic ch => exact hp.elim
      | outgrown => exact hp.elim
    · rintro e W2 ⟨⟨v, rfl⟩, (⟨hi, hl, hk⟩ | ⟨c, hi, hl, hk⟩)⟩
      · exact ⟨none, _, by have := run_endLoop (P := P) hl (by rw [hrec]; simp); rw [hrec] at this; exact this, hdone _ _ (Nat.le_refl _) (hFin _ _ _ _ hi (by omega) hl rfl) ((World.putObj_heap_other (by omega)).trans hk)⟩
      · exact ⟨some c, _, by have := run_endLoop (P := P) hl (by rw [hrec]; simp); rw [hrec] at this; exact this, hstop _ c _ (Nat.le_refl _) (hFinX c _ _ _ _ hi (by omega) hl rfl) ((World.putObj_heap_other (by omega)).trans hk)⟩
end Go.Proofs.Ytfdbhlhlhjdpbaa

/-
  Contract of the iterator of slices.Chunk, where the length is a multiple of the chunk's.
-/
namespace Go.Proofs.Ytfdbhlhlhjdpbaa
open Go.RowKit Go.Shelf
attribute [local go_sem] Oper.semAt_some

theorem keeps_belowT {w w' : World} (z : Below w.heap.size w w') : KeepsOthers w w' := ⟨z.size, fun k _ hk _ => (z.block k (Array.getElem?_eq_some_iff.1 hk).1).trans hk⟩

theorem put_cellsT {W : World} {l b : Nat} {o o' : Obj} {cur : Array Value} {t : TypeId} {f : Nat × Nat} (hl : W.heap[l]? = some o) (ho : o.isCells = false) (hb : W.heap[b]? = some (.cells cur t f)) : (W.putObj l o').heap[b]? = some (.cells cur t f) := by
  refine (World.putObj_heap_other ?_).trans hb
  rintro rfl
  rw [hb] at hl; cases hl; cases ho
theorem Blk.putT {W : World} {l g : Nat} {o : Obj} {t : TypeId} {cs : Array Value} (h : Blk W g t cs) (o' : Obj) (hl : W.heap[l]? = some o) (ho : o.isCells = false) : Blk (W.putObj l o') g t cs := put_cellsT hl ho h
theorem Own.putT {W : World} {l : Nat} {o : Obj} {A : Option Addr} {n c s lo : Nat} {e : TypeId} {cs : List Value} (h : Own W lo e s A n c cs) (o' : Obj) (hl : W.heap[l]? = some o) (ho : o.isCells = false) : Own (W.putObj l o') lo e s A n c cs := by
  rcases h.2 with ⟨rfl, h1, h2⟩ | ⟨b, off, cur, rfl, h1, hg, h2⟩
  · exact ⟨h.1, .inl ⟨rfl, h1, h2⟩⟩
  · exact ⟨h.1, .inr ⟨b, off, cur, rfl, h1, put_cellsT hl ho hg, h2⟩⟩
theorem below_putT {W w : World} {B l : Nat} {o : Obj} (h : Below B w W) (hB : B ≤ l) (o' : Obj) (hl : W.heap[l]? = some o) : Below B w (W.putObj l o') :=
  h.trans ((Below.refl B W).grown (grownBy_putObj' W l o') (by have := (Array.getElem?_eq_some_iff.1 hl).1; omega) (fun k e => by cases e; omega))
/-- A row of cells grows: what else there is stays. -/
theorem Own.keepsT {W W2 : World} {A : Option Addr} {n c s lo : Nat} {e : TypeId} {cs : List Value} (h : Own W lo e s A n c cs) (hg : W.grownBy W2 (blk A)) : KeepsOthers W W2 := by
  refine ⟨hg.size, fun b o hb ho => (hg.block b (Array.getElem?_eq_some_iff.1 hb).1 ?_).trans hb⟩
  intro e1
  rcases h.2 with ⟨rfl, _⟩ | ⟨b1, off, cur, rfl, _, hg1, _⟩
  · cases e1
  · cases e1
    rw [hg1] at hb; cases hb; cases ho
/-- An append inside a fence. -/
theorem wpListIn_append_OwnT {F : Fence} {n0 : Nat} {P : Program} {t e : TypeId} {s bytes : Nat} {z : Value} {ops : Array Oper} {rest : List Oper} {o : Oper} {a : Act} {Q : Exit → Act → World → Prop} (hgd : o.guard = none) (sl x : Operand) (ho : o.op = .call { callee := .builtin .append, args := #[sl, x], argTypes := #[t, t] })
    (E : Elem P t e s bytes z) {w : World} {lo : Nat} {A : Option Addr} {n c : Nat} {xs : List Value} (hs : a.eval sl = .slice A n c) (h : Own w lo e s A n c xs)
    {A' : Option Addr} {m c' : Nat} {news : List Value} (hx : a.eval x = .slice A' m c') (hr : Rd w s A' m news) (h1 : ∀ u ∈ news, u.oneCell' = true) (hb : (n + m) * bytes ≤ 140737488355328) (hm : n + m ≤ maxLen) (hlo : lo ≤ w.heap.size)
    (hK : ∀ A2 c2 w2, Own w2 lo e s A2 (n + m) c2 (xs ++ news) → w.grownBy w2 (blk A) → wpListIn F n0 P ops Q rest (a.put o.dst (.slice A2 (n + m) c2)) w2) : wpListIn F n0 P ops Q (o :: rest) a w := by
  refine wpListIn_plain hgd fun K hK' => ?_
  obtain ⟨A2, c2, w2, hrun, h2, h3, h4⟩ := run_append_Own E w o.type h hr (c' := c') h1 hb hm hlo
  unfold Oper.wpIn
  refine ⟨?_, ?_⟩
  · simp [Oper.about, ho, resolve, Target.leads, Sem.run_pure]
  · rw [Oper.semAt_plain F _ _ (by rw [ho]; intro c hc'; cases hc')]
    simp [execOp, ho, resolve, invoke, builtin, hs, hx, hrun, Result.andThen]
    exact hK' _ _ (hK A2 c2 w2 h2 h3)

/-- The boxes that the iterator reads. -/
structure Ck where
  g1 : Nat
  g2 : Nat
  A : Option Addr
  b : Nat
  off : Nat
  N : Nat
  c : Nat
  n : Nat
  m : Nat
def Ck.At (p : Ck) (W : World) : Prop := Blk W p.g1 25 #[.slice p.A p.N p.c] ∧ Blk W p.g2 3 #[.int .i64 (p.n : Int)]
structure Ck.Ok (p : Ck) : Prop where
  hN : p.N = p.m * p.n
  hn : 1 ≤ p.n
  hb : p.N ≤ 1048576
  hc : p.N ≤ p.c
  hA : p.m ≠ 0 → p.A = some ⟨p.b, p.off, none⟩
abbrev Ck.enc (p : Ck) (i : Nat) : Array Value := #[.slice (some ⟨p.b, p.off + i * p.n, none⟩) p.n p.n]
def Ck.J (p : Ck) (D : Nat → World → Prop) (i : Nat) (W : World) : Prop := i < p.m ∧ D i W
def Ck.J' (p : Ck) (D : Nat → World → Prop) (i : Nat) (W : World) : Prop := i < p.m ∧ D (i + 1) W

set_option maxHeartbeats 2000000 in
theorem chunk1_seq (p : Ck) (hp : p.Ok) (D : Nat → World → Prop) (hA : ∀ i W, D i W → p.At W) (hD : ∀ i k W, D i W → D i (World.drewN W k)) (n : Nat) :
    SeqC Fence.wide n Try.prog 143 #[.pointer (some ⟨p.g1, 0, none⟩), .pointer (some ⟨p.g2, 0, none⟩)] p.enc (p.J D) (p.J' D) (fun _ _ _ => False) (D 0) (D p.m) (fun _ _ => False) := by
  intro l B Bx hB hBx hY W h0 hB0
  obtain ⟨hN, hn, hb, hc, hA0⟩ := hp
  have HB := Lib.hid hB
  have HY := Lib.hid hY
  have HA := Lib.hid hA
  have HD := Lib.hid hD
  have HN := Lib.hid hN
  have HA0 := Lib.hid hA0
  clear hB hBx hY hD hA hN hA0
  refine callsIn_of_wp Try.func143 rfl trivial ?_ rfl
  simp only [Try.ntmps143, List.size_toArray, List.length_cons, List.length_nil, Nat.reduceAdd, Nat.reduceSub, Array.replicate_succ, Array.replicate_zero, List.push_toArray, List.append_toArray, List.nil_append, List.cons_append]
  gi_wp2
  gi_loopw [4] (fun s wr => ∃ i q : Nat, s = .int .i64 (q : Int) ∧ Hid (q = i * p.n) ∧ i ≤ p.m ∧ D i wr ∧ B wr) (fun s _ => p.N - (intOf s).toNat)
  case atStart => exact ⟨0, 0, rfl, Lib.hid (by simp), Nat.zero_le _, h0, hB0⟩
  case round =>
    obtain ⟨i, q, rfl, hq, hi, hst, hb1⟩ := hrel
    obtain ⟨A1, A2⟩ := HA.out i wr hst
    have a1 : wr.cell? ⟨p.g1, 0, none⟩ = some (.slice p.A p.N p.c) := A1.cell 0
    have a2 : wr.cell? ⟨p.g2, 0, none⟩ = some (.int .i64 (p.n : Int)) := A2.cell 0
    by_cases hlt : i < p.m
    · rw [HA0.out (by omega)] at a1
      have h1 : q + p.n ≤ p.N := by
        rw [hq.out, HN.out]
        have := Nat.mul_le_mul_right p.n (show i + 1 ≤ p.m from hlt)
        rwa [Nat.succ_mul] at this
      have h2 : q + p.n ≤ 1048576 := by omega
      have hq' : q = i * p.n := hq.out
      have hst1 : D i wr.drew := HD.out i 1 wr hst
      have hb11 : B wr.drew := HB.out _ _ hb1 (keeps_belowT (below_drewN (Below.refl _ _) 1))
      obtain ⟨fn, tmps, assign, body, hy, hR⟩ := HY.out i wr.drew ⟨hlt, hst1⟩ hb11
      dsimp only [Ck.enc] at hy
      rw [← hq'] at hy
      clear hq'
      have e1 : p.off + q - (p.off + q) = 0 := by omega
      gi_wp2
      gi_region
      have a11 : wr.drew.cell? ⟨p.g1, 0, none⟩ = some (.slice (some ⟨p.b, p.off, none⟩) p.N p.c) := a1
      have a21 : wr.drew.cell? ⟨p.g2, 0, none⟩ = some (.int .i64 (p.n : Int)) := a2
      generalize wr.drew = wr1 at *
      gi_wp2
      refine ⟨(fun h => by cases h), hR.mono ?_⟩
      rintro e W3 (⟨rfl, ⟨_, hst3⟩, hb3⟩ | ⟨rfl, c, hF, _⟩)
      · have a23 : W3.cell? ⟨p.g2, 0, none⟩ = some (.int .i64 (p.n : Int)) := (HA.out _ _ hst3).2.cell 0
        have hq1 : Hid (q + p.n = (i + 1) * p.n) := Lib.hid (by rw [hq.out, Nat.succ_mul])
        gi_wp2
        go_roundw
        case rel => exact ⟨i + 1, q + p.n, by go_num, hq1, by omega, hst3, hb3⟩
        case measure => simp [intOf]; omega
      · exact hF.elim
    · have hqN : q = p.N := by rw [hq.out, HN.out, show i = p.m by omega]
      have him : i = p.m := by omega
      subst him
      gi_wp2
      exact bodyPost_end (results_none rfl _ _ _) rfl ⟨⟨_, rfl⟩, .inl ⟨hst, hb1⟩⟩
end Go.Proofs.Ytfdbhlhlhjdpbaa

/-
  Contracts of slices.Chunk and, on codes, of impl.wordOfTurn.
-/
namespace Go.Proofs.Ytfdbhlhlhjdpbaa
open Go.RowKit
attribute [local go_sem] Oper.semAt_some

theorem chunk_any (A : Option Addr) (N c n : Nat) (w : World) (hn : 1 ≤ n) :
    Calls Try.prog 102 #[.slice A N c, .int .i64 (n : Int)] w fun e w' => e = .returned (.func (.func 143) #[] #[.pointer (some ⟨w.heap.size, 0, none⟩), .pointer (some ⟨w.heap.size + 1, 0, none⟩)]) ∧
      Blk w' w.heap.size 25 #[.slice A N c] ∧ Blk w' (w.heap.size + 1) 3 #[.int .i64 (n : Int)] ∧ Below w.heap.size w w' := by
  have h1 : ¬ (n : Int) < 1 := by omega
  obtain ⟨W, hW_⟩ : ∃ W, W = (w.alloc (.cells #[.slice A N c] 25)).alloc (.cells #[.int .i64 (n : Int)] 3) := ⟨_, rfl⟩
  have s_1 : (w.alloc (.cells #[.slice A N c] 25)).heap.size = w.heap.size + 1 := by simp
  have b0 : Blk W w.heap.size 25 #[.slice A N c] := by rw [hW_]; exact (Blk.new w _ _).alloc _
  have b1 : Blk W (w.heap.size + 1) 3 #[.int .i64 (n : Int)] := by rw [hW_, ← s_1]; exact Blk.new _ _ _
  have y0 : Below w.heap.size w W := by rw [hW_]; exact ((Below.refl _ _).alloc (Nat.le_refl _) _).alloc (by simp) _
  have HW := Lib.hid hW_
  clear hW_ s_1
  have q0 : W.cell? ⟨(w.heap.size + 1), 0, none⟩ = some (.int .i64 (n : Int)) := b1.cell 0
  go_enter Try.func102, Try.ntmps102
  go_wp2_with fail
  rw [← HW.out]
  go_ret
  exact ⟨rfl, b0, b1, y0⟩

/-- What the caller's blocks hold ahead of chunk k. -/
def wtD (w : World) (p : Ck) (g6 : Nat) (ws : List Int) (k : Nat) (W : World) : Prop :=
  p.At W ∧ Blk W (w.heap.size + 1) 25 #[.slice none 0 0] ∧ Blk W (w.heap.size + 1 + 1) 2 #[.int .i64 0] ∧ Below w.heap.size w W ∧
  ∃ A6 c6, Blk W g6 25 #[.slice A6 k c6] ∧ Own W (w.heap.size + 1 + 1 + 1) 2 1 A6 k c6 (ints (ws.take k))
theorem wtD_put {w : World} {p : Ck} {g6 k b0 : Nat} {ws : List Int} (hb : w.heap.size ≤ b0) : PutOk b0 (wtD w p g6 ws k) := by
  rintro W l o o' ⟨⟨h1, h2⟩, h3, h4, h5, A6, c6, h6, h7⟩ hl hg ho
  exact ⟨⟨h1.putT o' hg ho, h2.putT o' hg ho⟩, h3.putT o' hg ho, h4.putT o' hg ho, below_putT h5 (by omega) o' hg, A6, c6, h6.putT o' hg ho, h7.putT o' hg ho⟩
theorem wtD_draw {w : World} {p : Ck} {g6 k : Nat} {ws : List Int} (W : World) (n : Nat) (h : wtD w p g6 ws k W) : wtD w p g6 ws k (W.drewN n) := by
  obtain ⟨⟨h1, h2⟩, h3, h4, h5, A6, c6, h6, h7⟩ := h
  exact ⟨⟨h1, h2⟩, h3, h4, below_drewN h5 n, A6, c6, h6, h7⟩
theorem codesL_window {n : Nat} {ws : List Int} {i : Nat} (hi : i < ws.length) : ((codesL n ws).drop (i * n)).take n = unitL n (ws[i]'hi).toNat := by
  rw [codesL_drop n i ws (by omega), List.drop_eq_getElem_cons hi, codesL_cons, List.take_append_of_le_length (by rw [unitL_len]; omega), List.take_of_length_le (by rw [unitL_len]; omega)]

theorem codes_cut {n i N : Nat} {A : Option Addr} {ws : List Int} {W : World} {b off : Nat} (h : SI W A N (codesL n ws)) (hi : i < ws.length) (hN : ws.length * n ≤ N) (hA : A = some ⟨b, off, none⟩) : SI W (some ⟨b, off + i * n, none⟩) n (unitL n (ws[i]'hi).toNat) := by
  have h1 : i * n + n ≤ N := by
    have := Nat.mul_le_mul_right n (show i + 1 ≤ ws.length from hi)
    rw [Nat.succ_mul] at this; omega
  have h2 := Rd.cut (i := i * n) (j := i * n + n) h (by omega) h1 (A' := some ⟨b, off + i * n, none⟩) (fun _ b' off' he => by rw [hA] at he; cases he; rfl)
  rw [show i * n + n - i * n = n from by omega] at h2
  have h3 : ((ints (codesL n ws)).take (i * n + n)).drop (i * n) = ints (unitL n (ws[i]'hi).toNat) := by
    rw [← codesL_window hi, List.drop_take, show i * n + n - i * n = n from by omega]
    simp [ints, List.map_take, List.map_drop]
  rwa [h3] at h2
/-- A new word and a code. -/
def NewWd (w : World) (xs : List Int) (k : Int) (e : Ending) (w' : World) : Prop :=
  ∃ A c, e = .returned (.tuple #[.slice A xs.length c, .int .i64 k]) ∧ Own w' w.heap.size 2 1 A xs.length c (ints xs) ∧ Below w.heap.size w w'

set_option maxRecDepth 100000 in
set_option maxHeartbeats 8000000 in
theorem wordOfTurn_codes (n : Nat) (A : Option Addr) (N c : Nat) (ws : List Int) (w : World) (hz : SI w A N (codesL n ws)) (hn : 1 ≤ n) (hN : N ≤ 1048576) (hc : N ≤ c) (hw : ∀ y ∈ ws, 0 ≤ y ∧ y < (n : Int)) :
    Calls Try.prog 52 #[.int .i64 (n : Int), .agg #[.int .i64 0, .slice A N c]] w (NewWd w ws 0) := by
  have hNl : N = ws.length * n := by have := hz.len; rw [codesL_len] at this; omega
  have HNL := Lib.hid hNl
  have HWS := Lib.hid hw
  have hrem : Int.tmod (N : Int) (n : Int) = 0 := by rw [hNl]; simp
  clear hNl hw
  obtain ⟨V, hW_⟩ : ∃ W, W = ((w.alloc (.cells #[.int .i64 0, .slice A N c] 36)).alloc (.cells #[.slice none 0 0] 25)).alloc (.cells #[.int .i64 0] 2) := ⟨_, rfl⟩
  have s_1 : (w.alloc (.cells #[.int .i64 0, .slice A N c] 36)).heap.size = w.heap.size + 1 := by simp
  have s_2 : ((w.alloc (.cells #[.int .i64 0, .slice A N c] 36)).alloc (.cells #[.slice none 0 0] 25)).heap.size = w.heap.size + 1 + 1 := by simp
  have b0 : Blk V w.heap.size 36 #[.int .i64 0, .slice A N c] := by rw [hW_]; exact ((Blk.new w _ _).alloc _).alloc _
  have b1 : Blk V (w.heap.size + 1) 25 #[.slice none 0 0] := by rw [hW_, ← s_1]; exact (Blk.new _ _ _).alloc _
  have b2 : Blk V (w.heap.size + 1 + 1) 2 #[.int .i64 0] := by rw [hW_, ← s_2]; exact Blk.new _ _ _
  have y0 : Below w.heap.size w V := by rw [hW_]; exact (((Below.refl _ _).alloc (Nat.le_refl _) _).alloc (by simp) _).alloc (by simp; omega) _
  have HV := Lib.hid hW_
  clear hW_ s_1 s_2
  have q0 : V.cell? ⟨w.heap.size, 0, none⟩ = some (.int .i64 0) := b0.cell 0
  have q1 : V.cell? ⟨w.heap.size, 1, none⟩ = some (.slice A N c) := b0.cell 1
  have u0 : V.cell? ⟨(w.heap.size + 1), 0, none⟩ = some (.slice none 0 0) := b1.cell 0
  have v0 : V.cell? ⟨(w.heap.size + 1 + 1), 0, none⟩ = some (.int .i64 0) := b2.cell 0
  have hz0 := hz.below y0
  refine (callsIn_wide (n := 3)).1 (callsIn_of_wp_marks Try.func52 rfl trivial (wpIn_wide.2 ?_) rfl)
  simp only [Try.ntmps52, List.size_toArray, List.length_cons, List.length_nil, Nat.reduceAdd, Nat.reduceSub, Array.replicate_succ, Array.replicate_zero, List.push_toArray, List.append_toArray, List.nil_append, List.cons_append]
  go_wp2_with fail
  rw [← HV.out]
  go_upto_region 5 with (go_at_call 54; refine (sizeI_any _ _ _ _ (by omega)).mono ?_; rintro e w' ⟨rfl, rfl⟩)
  clear q0 q1 u0 v0 hrem
  obtain ⟨W2, hW_⟩ : ∃ W, W = (V.alloc (.cells #[] 2)).alloc (.cells #[.slice (some ⟨V.heap.size, 0, none⟩) 0 0] 25) := ⟨_, rfl⟩
  have s_1 : (V.alloc (.cells #[] 2)).heap.size = V.heap.size + 1 := by simp
  have e0 : Blk W2 V.heap.size 2 #[] := by rw [hW_]; exact (Blk.new V _ _).alloc _
  have e1 : Blk W2 (V.heap.size + 1) 25 #[.slice (some ⟨V.heap.size, 0, none⟩) 0 0] := by rw [hW_, ← s_1]; exact Blk.new _ _ _
  have y1 : Below V.heap.size V W2 := by rw [hW_]; exact ((Below.refl _ _).alloc (Nat.le_refl _) _).alloc (by simp) _
  have HW2 := Lib.hid hW_
  clear hW_ s_1
  have b02 := b0.below' y1
  have q0 : W2.cell? ⟨w.heap.size, 0, none⟩ = some (.int .i64 0) := b02.cell 0
  have q1 : W2.cell? ⟨w.heap.size, 1, none⟩ = some (.slice A N c) := b02.cell 1
  go_upto_region 6 with fail
  rw [← HW2.out]
  go_wp2_with (go_at_call 102; refine (chunk_any A N c n W2 hn).mono ?_; rintro e W3 ⟨rfl, g1, g2, z3⟩)
  have hwV : w.heap.size + 1 + 1 < V.heap.size := b2.lt
  have z23 : Below V.heap.size V W3 := y1.trans (z3.mono y1.size)
  have z03 : Below w.heap.size w W3 := y0.trans (z23.mono y0.size)
  have hVW := z23.size
  have hVW2 := y1.size
  obtain ⟨b, off, hA⟩ : ∃ b off, ws.length ≠ 0 → A = some ⟨b, off, none⟩ := by
    by_cases h0 : ws.length = 0
    · exact ⟨0, 0, fun h => absurd h0 h⟩
    · have hN0 : 0 < N := by rw [HNL.out]; exact Nat.mul_pos (by omega) hn
      obtain ⟨b, off, h1, _⟩ := hz.at_ hN0
      exact ⟨b, off, fun _ => h1⟩
  have HA := Lib.hid hA
  clear hA
  have hok : (Ck.mk W2.heap.size (W2.heap.size + 1) A b off N c n ws.length).Ok := ⟨HNL.out, hn, hN, hc, HA.out⟩
  have HST : Hid (wtD w (Ck.mk W2.heap.size (W2.heap.size + 1) A b off N c n ws.length) (V.heap.size + 1) ws 0 W3) := Lib.hid ⟨⟨g1, g2⟩, b1.below' z23, b2.below' z23, z03, _, _, e1.below' z3, by
    have h1 : Own W3 V.heap.size 2 1 (some ⟨V.heap.size, 0, none⟩) 0 0 [] := ⟨rfl, .inr ⟨V.heap.size, 0, #[], rfl, Nat.le_refl _, e0.below' z3, Nat.le_refl _, by simp [maxLen], by simp, fun k hk => by simp at hk⟩⟩
    exact h1.mono hwV⟩
  have hseq := chunk1_seq _ hok (wtD w (Ck.mk W2.heap.size (W2.heap.size + 1) A b off N c n ws.length) (V.heap.size + 1) ws) (fun i W h => h.1) (fun i k W h => wtD_draw W k h) 2
  have hpb : w.heap.size ≤ W3.heap.size := z03.size
  have heW := e1.lt
  clear b0 b1 b2 y0 hz0 e0 e1 y1 b02 q0 q1 g1 g2 z3 hok z23 z03
  refine (wpIn_wide (n := 3)).1 (wpIn_rangeFunc_st rfl (by decide) (gf := 143) (lb := #[.pointer (some ⟨W2.heap.size, 0, none⟩), .pointer (some ⟨W2.heap.size + 1, 0, none⟩)]) rfl trivial (enters_of Try.func143 (by kernel_rfl) rfl) hseq (fun _ => rfl)
    (fun x W l o o' h h1 h2 h3 => ⟨h.1, wtD_put hpb W l o o' h.2 h1 h2 h3⟩) (fun x W l o o' h h1 h2 h3 => ⟨h.1, wtD_put hpb W l o o' h.2 h1 h2 h3⟩) (fun c x W l o o' h h1 h2 h3 => h) (wtD_put hpb) (fun c W l o o' h h1 h2 h3 => h)
    (fun r => ?start)
    ?a1 ?assign ?body ?done ?stop)
  case start =>
    have z5 : Below W3.heap.size W3 ((W3.alloc (.deferred (some []))).alloc (.loop r)) := ((Below.refl _ _).alloc (Nat.le_refl _) _).alloc (by simp) _
    obtain ⟨⟨h1, h2⟩, h3, h4, h5, A6, c6, h6, h7⟩ := HST.out
    exact ⟨⟨h1.below' z5, h2.below' z5⟩, h3.below' z5, h4.below' z5, h5.trans (z5.mono h5.size), A6, c6, h6.below' z5, h7.below z5⟩
  case assign =>
    intro l x W K hK
    gi_wp2
    exact hK
  case body =>
    rintro l i W hl ⟨hi, ⟨h1, h2⟩, h3, h4, h5, A6, c6, h6, h7⟩
    dsimp only at hi h1 h2
    have hy0 := HWS.out (ws[i]'hi) (List.getElem_mem hi)
    obtain ⟨x0, hx0⟩ : ∃ x0 : Nat, ws[i]'hi = (x0 : Int) := ⟨(ws[i]'hi).toNat, by omega⟩
    have hxn : x0 < n := by omega
    have hsl : SI W (some ⟨b, off + i * n, none⟩) n (unitL n x0) := by
      have h9 := codes_cut (hz.below h5) hi (by rw [← HNL.out]; exact Nat.le_refl _) (HA.out (by omega))
      rwa [hx0] at h9
    have hnN : n ≤ N := by
      rw [HNL.out]
      calc n = 1 * n := by simp
        _ ≤ ws.length * n := Nat.mul_le_mul_right n (by omega)
    have hmN : ws.length ≤ N := by
      rw [HNL.out]
      calc ws.length = ws.length * 1 := by simp
        _ ≤ ws.length * n := Nat.mul_le_mul_left _ hn
    have HI := Lib.hid (indexI_at (some ⟨b, off + i * n, none⟩) n n (unitL n x0) 1 x0 W hsl (by omega) (unit_index hxn).1 (unit_index hxn).2)
    have HC := Lib.hid (countOf_any (some ⟨b, off + i * n, none⟩) n n (unitL n x0) 1 W hsl (by omega))
    rw [unit_count hxn] at HC
    have htk : Hid (ints (ws.take (i + 1)) = ints (ws.take i) ++ [.int .i64 (x0 : Int)]) := Lib.hid (by
      rw [List.take_succ_eq_append_getElem hi, hx0]; simp [ints])
    clear hy0 hx0 hsl
    have c6' : W.cell? ⟨V.heap.size + 1, 0, none⟩ = some (.slice A6 i c6) := h6.cell 0
    have i0 : ¬ (x0 : Int) < 0 := by omega
    have hWl := h6.lt
    gi_wp2
    refine ⟨trivial, (CallsIn.inRound l (callsIn_wide.2 HI.out)).mono ?_⟩
    rintro e W7 ⟨rfl, rfl⟩
    gi_wp2
    refine ⟨trivial, (CallsIn.inRound l (callsIn_wide.2 HC.out)).mono ?_⟩
    rintro e W8 ⟨rfl, rfl⟩
    gi_wp2_with (gi_at_builtin; refine wpListIn_append_OwnT rfl (.tmp 33) (.tmp 35) rfl elI (lo := w.heap.size + 1 + 1 + 1) rfl (h7.alloc _) rfl (Rd.new1 _ _ _) (by simp [Value.oneCell']) (by omega) (by simp only [maxLen]; omega) (by simp; omega) ?_; intro A8 c8 w8 ho8 hg8; have b68 := (h6.alloc _).growt (h7.alloc _) hg8 (by decide); have c68 : w8.cell? ⟨V.heap.size + 1, 0, none⟩ = some (.slice A6 i c6) := b68.cell 0; have f68 := b68.frozen 0)
    have b18 := (h1.alloc _).growt (h7.alloc _) hg8 (by decide)
    have b28 := (h2.alloc _).growt (h7.alloc _) hg8 (by decide)
    have b38 := (h3.alloc _).growt (h7.alloc _) hg8 (by decide)
    have b48 := (hg8.block _ (h4.alloc _).lt (fun e => by have := h7.blk_ge _ e.symm; omega)).trans (h4.alloc _)
    have h58 := Own.below_of ((h7.mono (show w.heap.size ≤ w.heap.size + 1 + 1 + 1 by omega)).alloc _) (h5.alloc h5.size _) hg8 (by simp; omega)
    have hk8 := ((keeps_belowT ((Below.refl W.heap.size W).alloc (Nat.le_refl _) _)).trans ((h7.alloc _).keepsT hg8)).trans (KeepsOthers.setCell w8 ⟨V.heap.size + 1, 0, none⟩ (.slice A8 (i + 1) c8))
    refine ⟨hk8, hi, ⟨b18.far (show W2.heap.size ≠ V.heap.size + 1 by omega) _, b28.far (show W2.heap.size + 1 ≠ V.heap.size + 1 by omega) _⟩, b38.far (show w.heap.size + 1 ≠ V.heap.size + 1 by omega) _, Blk.far b48 (show w.heap.size + 1 + 1 ≠ V.heap.size + 1 by omega) _, h58.setCell (show w.heap.size ≤ V.heap.size + 1 by omega) _, A8, c8, b68.set_ 0 _, ?_⟩
    rw [htk.out]
    exact ho8.far (p := ⟨V.heap.size + 1, 0, none⟩) (b68.aptt ho8 (by decide)) _
  case done =>
    rintro D W hD ⟨⟨h1, h2⟩, h3, h4, h5, A6, c6, h6, h7⟩ hK
    dsimp only at h6 h7
    have c4 : W.cell? ⟨V.heap.size + 1, 0, none⟩ = some (.slice A6 ws.length c6) := h6.cell 0
    have c1 : W.cell? ⟨w.heap.size + 1, 0, none⟩ = some (.slice none 0 0) := h3.cell 0
    have c2 : W.cell? ⟨w.heap.size + 1 + 1, 0, none⟩ = some (.int .i64 0) := h4.cell 0
    have f1 := h3.frozen 0
    have f2 := h4.frozen 0
    go_wp2_with fail
    have d1 := (h3.set_ 0 (.slice A6 ws.length c6)).far (p := ⟨w.heap.size + 1 + 1, 0, none⟩) (show w.heap.size + 1 ≠ w.heap.size + 1 + 1 by omega) (.int .i64 0)
    have d2 := (h4.far (p := ⟨w.heap.size + 1, 0, none⟩) (show w.heap.size + 1 + 1 ≠ w.heap.size + 1 by omega) (.slice A6 ws.length c6)).set_ 0 (.int .i64 0)
    have do_ := ((h7.far (p := ⟨w.heap.size + 1, 0, none⟩) (fun e => by have := h7.blk_ge _ e; dsimp only at this; omega) (.slice A6 ws.length c6)).far (p := ⟨w.heap.size + 1 + 1, 0, none⟩) (fun e => by have := h7.blk_ge _ e; dsimp only at this; omega) (.int .i64 0)).mono (show w.heap.size ≤ w.heap.size + 1 + 1 + 1 by omega)
    have dz := (h5.setCell (p := ⟨w.heap.size + 1, 0, none⟩) (show w.heap.size ≤ w.heap.size + 1 by omega) (.slice A6 ws.length c6)).setCell (p := ⟨w.heap.size + 1 + 1, 0, none⟩) (show w.heap.size ≤ w.heap.size + 1 + 1 by omega) (.int .i64 0)
    have hK7 := ((KeepsOthers.setCell W ⟨w.heap.size + 1, 0, none⟩ (.slice A6 ws.length c6)).trans (KeepsOthers.setCell _ ⟨w.heap.size + 1 + 1, 0, none⟩ (.int .i64 0))).same D _ hK rfl
    generalize (W.setCell ⟨w.heap.size + 1, 0, none⟩ (.slice A6 ws.length c6)).setCell ⟨w.heap.size + 1 + 1, 0, none⟩ (.int .i64 0) = Wf at *
    have k1 : (Wf.putObj D (.deferred none)).cell? ⟨w.heap.size + 1, 0, none⟩ = some (.slice A6 ws.length c6) := (d1.putT (.deferred none) hK7 rfl).cell 0
    have k2 : (Wf.putObj D (.deferred none)).cell? ⟨w.heap.size + 1 + 1, 0, none⟩ = some (.int .i64 0) := (d2.putT (.deferred none) hK7 rfl).cell 0
    rw [List.take_of_length_le (Nat.le_refl _)] at do_
    refine ⟨by simp, .inl ⟨_, _, rfl, run_takeDeferred hK7, ?_⟩⟩
    exact ⟨.tuple #[.slice A6 ws.length c6, .int .i64 0], by simp [results, Try.results52, go_sem, k1, k2], A6, c6, rfl, do_.putT (.deferred none) hK7 rfl, below_putT dz (by omega) _ hK7⟩
  case stop =>
    rintro D c' W hD h
    exact h.elim
end Go.Proofs.Ytfdbhlhlhjdpbaa

/-
  A step of a cyclic tag system that runs.
-/
namespace Go.Proofs.Ytfdbhlhlhjdpbaa
open Go.RowKit

def StepXC (X : Nat → Prop) (w w0 : World) (g : Nat) (A : Option Addr) (n c : Nat) (a : Int) (ys : List Int) (e : Ending) (w' : World) : Prop :=
  ∃ Q r, e = .returned (.bool (decide (ys.length ≤ 1000))) ∧ CRun w' g A n c a Q ys.length r ∧ Own w' w0.heap.size 2 1 Q ys.length r (ints ys) ∧ (∀ b, blk Q = some b → ¬ X b) ∧ Below w0.heap.size w0 w' ∧ Fr X w w'
theorem CRun.apt {w : World} {g : Nat} {A : Option Addr} {n c : Nat} {a : Int} {Q : Option Addr} {l r : Nat} (h : CRun w g A n c a Q l r) {lo s n' c' : Nat} {B : Option Addr} {cs : List Value} (ho : Own w lo 2 s B n' c' cs) : blk B ≠ some g := Blk.aptt h ho (by decide)

theorem CRun.cells {w : World} {g : Nat} {A : Option Addr} {n c : Nat} {a : Int} {Q : Option Addr} {l r : Nat} (h : CRun w g A n c a Q l r) : w.cell? ⟨g, 0, none⟩ = some (.slice A n c) ∧ w.cell? ⟨g, 1, none⟩ = some (.int .i64 a) ∧ w.cell? ⟨g, 2, none⟩ = some (.slice Q l r) := ⟨h.cell 0, h.cell 1, h.cell 2⟩
theorem CRun.set2 {w : World} {g : Nat} {A : Option Addr} {n c : Nat} {a : Int} {Q : Option Addr} {l r : Nat} (h : CRun w g A n c a Q l r) (Q' : Option Addr) (l' r' : Nat) : CRun (w.setCell ⟨g, 2, none⟩ (.slice Q' l' r')) g A n c a Q' l' r' := Blk.set_ h 2 (.slice Q' l' r')
theorem CRun.set1 {w : World} {g : Nat} {A : Option Addr} {n c : Nat} {a : Int} {Q : Option Addr} {l r : Nat} (h : CRun w g A n c a Q l r) (a' : Int) : CRun (w.setCell ⟨g, 1, none⟩ (.int .i64 a')) g A n c a' Q l r := Blk.set_ h 1 (.int .i64 a')
theorem CRun.grown {w w2 : World} {g : Nat} {A : Option Addr} {n c : Nat} {a : Int} {Q : Option Addr} {l r : Nat} (h : CRun w g A n c a Q l r) {row : Option Nat} (hg : w.grownBy w2 row) (hr : row ≠ some g) : CRun w2 g A n c a Q l r := (hg.block g h.lt (Ne.symm hr)).trans h

set_option maxRecDepth 100000 in
set_option maxHeartbeats 4000000 in
theorem cyclicStep_x (X : Nat → Prop) (w0 : World) (g : Nat) (A : Option Addr) (n c : Nat) (ts : List Sl) (a : Nat) (Q : Option Addr) (l r : Nat) (xs : List Int) (t : Sl) (w : World) (hx : SII w0 A n ts) (hb0 : Below w0.heap.size w0 w) (hg : w0.heap.size ≤ g)
    (hr : CRun w g A n c (a : Int) Q l r) (hQ : Own w w0.heap.size 2 1 Q l r (ints xs)) (hXg : Hid (¬ X g)) (hXQ : Hid (∀ b, blk Q = some b → ¬ X b)) (hXt : Hid (∀ b, X b → b < w.heap.size)) (hl0 : 0 < l) (hl : l ≤ 1048576) (hn : n ≤ 1048576) (ha : a < n) (hT : Hid (ts[a]? = some t)) (htl : t.xs.length ≤ 1048576) :
    Calls Try.prog 51 #[.pointer (some ⟨g, 0, none⟩)] w (StepXC X w w0 g A n c (((a : Int) + 1).tmod n) (xs.tail ++ if xs.headD 0 = 1 then t.xs else [])) := by
  have k0 : w.cell? ⟨g, 0, none⟩ = some (.slice A n c) := hr.cell 0
  have k1 : w.cell? ⟨g, 1, none⟩ = some (.int .i64 (a : Int)) := hr.cell 1
  have k2 : w.cell? ⟨g, 2, none⟩ = some (.slice Q l r) := hr.cell 2
  have f2 := hr.frozen 2
  have hapt := Lib.hid (hr.apt hQ)
  obtain ⟨b, off, rfl, hbl, hc⟩ := SI.at0 (xs := xs) hQ.rd hl0
  have HXL : Hid (xs.length = l) := by have := hQ.1; rw [length_ints] at this; show _ = _; omega
  have i3 : (0 : Int) < (l : Int) := by omega
  have hcap := hQ.le
  obtain ⟨x0, ex0⟩ : ∃ x, x = xs.headD 0 := ⟨_, rfl⟩
  rw [← ex0] at hc ⊢
  have EX0 := Lib.hid ex0
  have ho1 := hQ.from_ (k := 1) hl0
  rw [ints_drop] at ho1
  have e1 : (xs.drop 1).length = l - 1 := by rw [List.length_drop, HXL.out]
  have E1 := Lib.hid e1
  clear e1 ex0
  obtain ⟨ys, eys⟩ : ∃ ys, ys = xs.tail ++ (if x0 = 1 then t.xs else []) := ⟨_, rfl⟩
  obtain ⟨a', ea⟩ : ∃ a', a' = ((a : Int) + 1) % n := ⟨_, rfl⟩
  rw [← eys, Int.tmod_eq_emod_of_nonneg (by omega), ← ea]
  have EYS := Lib.hid eys
  have EA := Lib.hid ea
  clear eys ea
  go_enter Try.func51, Try.ntmps51
  go_upto_region 2 with fail
  go_cut [2, 3] (fun s2 s3 wx => s2 = .bool false ∧ s3 = .int .i64 x0 ∧ ∃ Q1 r1, CRun wx g A n c (a : Int) Q1 (l - 1) r1 ∧ Own wx w0.heap.size 2 1 Q1 (l - 1) r1 (ints (xs.drop 1)) ∧ Hid (∀ b, blk Q1 = some b → ¬ X b) ∧ Below w0.heap.size w0 wx ∧ Fr X w wx)
  case first =>
    go_wp2_with fail
    all_goals
      go_meet
      first | rw [if_pos (by assumption)] at ho1 | rw [if_neg (by assumption)] at ho1
      try simp only [Option.map_some, add_lit] at ho1
      try rw [show r - 1 = 0 by omega] at ho1
      refine ⟨rfl, rfl, _, _, hr.set2 _ _ _, ho1.far (p := ⟨g, 2, none⟩) (by simpa [blk] using hapt.out) _, ?_, hb0.setCell (p := ⟨g, 2, none⟩) hg _, (Fr.refl X w).set_ (p := ⟨g, 2, none⟩) hXg.out _⟩
      show ∀ b2, blk _ = some b2 → ¬ X b2
      intro b2 hb2
      exact hXQ.out b2 (by simpa [blk] using hb2)
  case rest =>
    obtain ⟨rfl, rfl, Q1, r1, hr1, ho1, hX1, hb1, hf1⟩ := hcut
    clear k0 k1 k2 f2 hc
    by_cases hone : x0 = 1
    · subst hone
      obtain ⟨t', b', off', hT', htm, rfl, hbl', hc', hrow⟩ := (hx.below hb1).pick ha
      obtain rfl : t = t' := by have h1 := hT.out; have h2 := hT'.out; rw [h1] at h2; simpa using h2
      clear hT'
      have j1 : (0 : Int) ≤ (a : Int) := by omega
      have j2 : (a : Int) < (n : Int) := by omega
      obtain ⟨k0, k1, k2⟩ := hr1.cells
      have HG := Lib.hid (hr1.apt ho1)
      go_upto_region 4 with fail
      go_cut [2] (fun s2 wy => s2 = .bool false ∧ ∃ A2 c2, CRun wy g (some ⟨b', off', none⟩) n c (a : Int) A2 (l - 1 + t.xs.length) c2 ∧ Own wy w0.heap.size 2 1 A2 (l - 1 + t.xs.length) c2 (ints (xs.drop 1 ++ t.xs)) ∧ Hid (∀ b, blk A2 = some b → ¬ X b) ∧ Below w0.heap.size w0 wy ∧ Fr X w wy)
      case first =>
        go_region_law
          ((refine step_append_Own rfl (.tmp 24) (.tmp 35) rfl elI (lo := w0.heap.size) rfl (by exact ho1.drewN _) rfl (by exact hrow.drewN _) (ints_one t.xs) (by omega) (by simp only [maxLen]; omega) (by exact hb1.size) ?_; intro A2 c2 w2 ho2 hg2 hwh2
            have hr2 : CRun w2 g (some ⟨b', off', none⟩) n c (a : Int) Q1 (l - 1) r1 := CRun.grown (w := wc.drewN 1) hr1 hg2 HG.out
            have e3 : w2.cell? ⟨g, 2, none⟩ = some (.slice Q1 (l - 1) r1) := hr2.cell 2
            have f3 := hr2.frozen 2))
        all_goals
          go_wp2_with fail
          go_meet
          refine ⟨rfl, A2, c2, hr2.set2 A2 (l - 1 + t.xs.length) c2, ?_, ?_, ?_, ?_⟩
          · rw [← ints_append]
            exact ho2.far (p := ⟨g, 2, none⟩) (hr2.apt ho2) _
          · show ∀ b2, blk A2 = some b2 → ¬ X b2
            intro b2 hb2 hX2
            rcases hwh2.1 with h | h
            · rw [h] at hb2; exact hX1.out b2 hb2 hX2
            · rw [h] at hb2
              have h9 := hXt.out b2 hX2
              have h8 := hf1.size
              simp at hb2
              omega
          · have hb2 : Below w0.heap.size w0 w2 := (ho1.drewN 1).below_of (below_drewN hb1 1) hg2 hb1.size
            exact hb2.setCell (p := ⟨g, 2, none⟩) hg _
          · exact (((hf1.drewN 1).grown hg2 hX1.out)).set_ (p := ⟨g, 2, none⟩) hXg.out _
      case rest =>
        obtain ⟨rfl, Q5, r5, hr5, ho5, hX5, hb5, hf5⟩ := hcut
        clear k0 k1 k2
        obtain ⟨l5, el5⟩ : ∃ l5, l5 = l - 1 + t.xs.length := ⟨_, rfl⟩
        rw [← el5] at hr5 ho5
        have HYS : Hid (ys = xs.drop 1 ++ t.xs) := Lib.hid (by rw [EYS.out]; simp)
        have hxl := HXL.out
        obtain ⟨kk0, kk1, kk2⟩ := hr5.cells
        have ff1 := hr5.frozen 1
        go_upto_region 5 with fail
        go_cut [2] (fun s2 wz => s2 = .bool false ∧ CRun wz g (some ⟨b', off', none⟩) n c a' Q5 l5 r5 ∧ Own wz w0.heap.size 2 1 Q5 l5 r5 (ints (xs.drop 1 ++ t.xs)) ∧ Below w0.heap.size w0 wz ∧ Fr X w wz)
        case first =>
          go_region_with (go_at_call 49; refine (sizeII_any _ _ _ _ (by omega)).mono ?_; rintro e w' ⟨rfl, rfl⟩)
          all_goals
            go_wp2_with fail
            go_meet
            rw [EA.out]
            exact ⟨rfl, hr5.set1 _, ho5.far (p := ⟨g, 1, none⟩) (hr5.apt ho5) _, (hb5.setCell (p := ⟨g, 1, none⟩) hg _).drew, (hf5.set_ (p := ⟨g, 1, none⟩) hXg.out _).drewN 1⟩
        case rest =>
          obtain ⟨rfl, hr6, ho6, hb6, hf6⟩ := hcut
          obtain ⟨m0, m1, m2⟩ := hr6.cells
          clear kk0 kk1 kk2
          have HYL : Hid (ys.length = l5) := Lib.hid (by rw [HYS.out]; simp; omega)
          go_wp2_with fail
          go_ret
          refine ⟨Q5, r5, ret_bool (by rw [HYL.out, decide_eq_decide]; omega), ?_, ?_, hX5.out, hb6, hf6⟩
          · rw [HYL.out]; exact hr6
          · rw [HYL.out, HYS.out]; exact ho6
    · have hne : (x0 == 1) = false := by simpa using hone
      obtain ⟨l5, el5⟩ : ∃ l5, l5 = l - 1 := ⟨_, rfl⟩
      rw [← el5] at hr1 ho1
      have HYS : Hid (ys = xs.drop 1) := Lib.hid (by rw [EYS.out, if_neg hone]; simp)
      have hxl := HXL.out
      obtain ⟨kk0, kk1, kk2⟩ := hr1.cells
      have ff1 := hr1.frozen 1
      go_upto_region 5 with fail
      go_cut [2] (fun s2 wz => s2 = .bool false ∧ CRun wz g A n c a' Q1 l5 r1 ∧ Own wz w0.heap.size 2 1 Q1 l5 r1 (ints (xs.drop 1)) ∧ Below w0.heap.size w0 wz ∧ Fr X w wz)
      case first =>
        go_region_with (go_at_call 49; refine (sizeII_any _ _ _ _ (by omega)).mono ?_; rintro e w' ⟨rfl, rfl⟩)
        all_goals
          go_wp2_with fail
          go_meet
          rw [EA.out]
          exact ⟨rfl, hr1.set1 _, ho1.far (p := ⟨g, 1, none⟩) (hr1.apt ho1) _, (hb1.setCell (p := ⟨g, 1, none⟩) hg _).drew, (hf1.set_ (p := ⟨g, 1, none⟩) hXg.out _).drewN 1⟩
      case rest =>
        obtain ⟨rfl, hr6, ho6, hb6, hf6⟩ := hcut
        obtain ⟨m0, m1, m2⟩ := hr6.cells
        clear kk0 kk1 kk2
        have HYL : Hid (ys.length = l5) := Lib.hid (by rw [HYS.out]; simp; omega)
        go_wp2_with fail
        go_ret
        refine ⟨Q1, r1, ret_bool (by rw [HYL.out, decide_eq_decide]; omega), ?_, ?_, hX1.out, hb6, hf6⟩
        · rw [HYL.out]; exact hr6
        · rw [HYL.out, HYS.out]; exact ho6
end Go.Proofs.Ytfdbhlhlhjdpbaa
