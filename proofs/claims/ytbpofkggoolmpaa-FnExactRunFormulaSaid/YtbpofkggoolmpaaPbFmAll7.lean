/-
  Formula tapes in memory: walls, repeaters and offsets that share no block.
-/
import Derived.Test.YtbpofkggoolmpaaPbFmAll1
import Derived.Test.YtbpofkggoolmpaaPbFmAll4
import Derived.Test.YtbpofkggoolmpaaPbFmAll5
import Derived.Test.YtbpofkggoolmpaaPbFmAll6
import Derived.BigGuardPart
namespace Go.Proofs.Ytbpofkggoolmpaa
open Go.RowKit

/-- make([]T, n) as an operation of a region. -/
theorem wp_make_OwnM {P : Program} {t e : TypeId} {s bytes : Nat} {z : Value} {o : Oper} {a : Act} {K : Act → World → Prop} {Q : Exit → Act → World → Prop} (l c : Operand) (ho : o.op = Op.makeSlice t l c)
    (E : Elem P t e s bytes z) {w : World} {kl kc : IntKind} {n : Nat} (hl : a.eval l = .int kl (n : Int)) (hc : a.eval c = .int kc (n : Int)) (hb : bytes * n ≤ 281474976710656) (hm : n ≤ maxLen) {lo : Nat} (hlo : lo ≤ w.heap.size)
    (hK : ∀ ub w2, ub = w.heap.size → Own w2 lo e s (some ⟨ub, 0, none⟩) n n (madeCells z.cells (n * s)).toList → Below w.heap.size w w2 → K (a.put o.dst (.slice (some ⟨ub, 0, none⟩) n n)) w2) : o.wp P a w K Q := by
  obtain ⟨w2, hrun, r1, r2, r3⟩ := run_make_Own E w kl kc hb hm hlo
  unfold Oper.wp
  simp [execOp, ho, hl, hc, hrun, Oper.upon]
  exact hK _ w2 rfl r1 r2

theorem made_zerosM (n : Nat) : (madeCells (Value.int .i64 0).cells (n * 1)).toList = ints (List.replicate n 0) := by
  rw [made_ints n (List.replicate n 0) (by simp)]
  congr 1
  unfold copied
  simp
theorem Apart.symm {A B C : Option Addr} {us vs : List Sl} (h : Apart A us B vs C) : Apart B vs A us C :=
  ⟨fun b hb ha => h.rows b ha hb, h.ro, h.wo, fun b hb ha => h.spine b ha hb⟩
/-- Walls, repeaters and offsets. -/
def FmO (w : World) (lo : Nat) (A : Option Addr) (c : Nat) (ts : List Sl) (B : Option Addr) (d : Nat) (us : List Sl) (C : Option Addr) (k : Nat) (os : List Int) : Prop :=
  OII w lo 26 2 A ts.length c ts ∧ OII w lo 26 2 B us.length d us ∧ Own w lo 2 1 C os.length k (ints os) ∧ Apart A ts B us C
/-- Its blocks. -/
def FmBlk (A : Option Addr) (ts : List Sl) (B : Option Addr) (us : List Sl) (C : Option Addr) (b : Nat) : Prop := blk A = some b ∨ RowBlk ts b ∨ blk B = some b ∨ RowBlk us b ∨ blk C = some b
section
variable {w w' : World} {lo lo' c d k : Nat} {A B C : Option Addr} {ts us : List Sl} {os : List Int}
theorem FmO.swap (h : FmO w lo A c ts B d us C k os) : FmO w lo B d us A c ts C k os := ⟨h.2.1, h.1, h.2.2.1, h.2.2.2.symm⟩
theorem FmO.below (h : FmO w lo A c ts B d us C k os) (z : Below w.heap.size w w') : FmO w' lo A c ts B d us C k os := ⟨h.1.below z, h.2.1.below z, h.2.2.1.below z, h.2.2.2⟩
theorem FmO.mono (h : FmO w lo A c ts B d us C k os) (hl : lo' ≤ lo) : FmO w lo' A c ts B d us C k os := ⟨h.1.mono hl, h.2.1.mono hl, h.2.2.1.mono hl, h.2.2.2⟩
theorem FmO.alloc (h : FmO w lo A c ts B d us C k os) (o : Obj) : FmO (w.alloc o) lo A c ts B d us C k os := ⟨h.1.alloc o, h.2.1.alloc o, h.2.2.1.alloc o, h.2.2.2⟩
theorem FmO.kept (h : FmO w lo A c ts B d us C k os) (hk : ∀ b, FmBlk A ts B us C b → w'.heap[b]? = w.heap[b]?) : FmO w' lo A c ts B d us C k os :=
  ⟨h.1.keptR fun b hb => hk b (hb.elim .inl fun h => .inr (.inl h)), h.2.1.keptR fun b hb => hk b (hb.elim (fun h => .inr (.inr (.inl h))) fun h => .inr (.inr (.inr (.inl h)))), h.2.2.1.kept fun b hb _ _ => hk b (.inr (.inr (.inr (.inr hb)))), h.2.2.2⟩
theorem FmO.blk_ge (h : FmO w lo A c ts B d us C k os) : ∀ b, FmBlk A ts B us C b → lo ≤ b ∧ b < w.heap.size := by
  rintro b (hb | ⟨t, ht, hb⟩ | hb | ⟨t, ht, hb⟩ | hb)
  · exact ⟨h.1.1.blk_ge b hb, h.1.1.blk_lt b hb⟩
  · exact ⟨(h.1.2.1 t ht).blk_ge b hb, (h.1.2.1 t ht).blk_lt b hb⟩
  · exact ⟨h.2.1.1.blk_ge b hb, h.2.1.1.blk_lt b hb⟩
  · exact ⟨(h.2.1.2.1 t ht).blk_ge b hb, (h.2.1.2.1 t ht).blk_lt b hb⟩
  · exact ⟨h.2.2.1.blk_ge b hb, h.2.2.1.blk_lt b hb⟩
/-- A block of another type is none of them. -/
theorem FmO.ne (h : FmO w lo A c ts B d us C k os) {g : Nat} {t : TypeId} {cur : Array Value} (hb : Blk w g t cur) (h1 : t ≠ 26) (h2 : t ≠ 2) : ∀ b, FmBlk A ts B us C b → b ≠ g := by
  rintro b (hh | ⟨t, ht, hh⟩ | hh | ⟨t, ht, hh⟩ | hh) rfl
  · exact hb.aptt h.1.1 h1 hh
  · exact hb.aptt (h.1.2.1 t ht) h2 hh
  · exact hb.aptt h.2.1.1 h1 hh
  · exact hb.aptt (h.2.1.2.1 t ht) h2 hh
  · exact hb.aptt h.2.2.1 h2 hh
theorem FmO.far (h : FmO w lo A c ts B d us C k os) {g : Nat} {t : TypeId} {cur : Array Value} (hb : Blk w g t cur) (h1 : t ≠ 26) (h2 : t ≠ 2) (hk : ∀ b, b ≠ g → w'.heap[b]? = w.heap[b]?) : FmO w' lo A c ts B d us C k os :=
  h.kept fun b hf => hk b (h.ne hb h1 h2 b hf)
theorem FmO.zero (w : World) (lo : Nat) : FmO w lo none 0 [] none 0 [] none 0 [] :=
  ⟨⟨⟨rfl, .inl ⟨rfl, rfl, rfl⟩⟩, by simp, List.Pairwise.nil⟩, ⟨⟨rfl, .inl ⟨rfl, rfl, rfl⟩⟩, by simp, List.Pairwise.nil⟩, ⟨rfl, .inl ⟨rfl, rfl, rfl⟩⟩, ⟨fun _ ⟨_, ht, _⟩ => absurd ht List.not_mem_nil, fun _ ⟨_, ht, _⟩ => absurd ht List.not_mem_nil, fun _ ⟨_, ht, _⟩ => absurd ht List.not_mem_nil, fun _ h => by cases h⟩⟩
/-- One more wall. -/
theorem FmO.snocW {wa w2 : World} {A2 : Option Addr} {c2 kk : Nat} {u : Sl} (h : FmO wa lo A c ts B d us C k os) (z : Below wa.heap.size wa w) (hs : Own w2 lo 26 1 A2 (ts.length + 1) c2 (ts.map Sl.val ++ [u.val])) (hg : w.grownBy w2 (blk A)) (hA : blk A2 = blk A ∨ blk A2 = some w.heap.size)
    (hu : Own w kk 2 1 u.A u.xs.length u.c (ints u.xs)) (hk : wa.heap.size ≤ kk) (hlk : lo ≤ kk) : FmO w2 lo A2 c2 (ts ++ [u]) B d us C k os := by
  obtain ⟨h1, h2, h3, h4⟩ := h
  have hne : (2 : TypeId) ≠ 26 := by decide
  have keep : ∀ b, b < w.heap.size → blk A ≠ some b → w2.heap[b]? = w.heap[b]? := fun b hb hne => hg.block b hb (fun e => hne e.symm)
  refine ⟨by rw [List.length_append]; exact OII.snoc h1 (h1.below z) hs hg hu hk hlk hne, ?_, ?_, ?_, ?_, h4.ro, ?_⟩
  · refine (h2.below z).keptR fun b hb => keep b ?_ ?_
    · rcases hb with hb | ⟨t, ht, hb⟩
      · exact (h2.below z).1.blk_lt b hb
      · exact ((h2.below z).2.1 t ht).blk_lt b hb
    · rcases hb with hb | ⟨t, ht, hb⟩
      · exact fun e => h4.spine b e hb
      · exact fun e => h1.spine_ne h2 hne b e ⟨t, ht, hb⟩
  · exact (h3.below z).kept fun b hb _ hlt => keep b hlt fun e => h1.own_ne h3 hne b e hb
  · rintro b ⟨t, ht, hb⟩ ⟨v, hv, hb'⟩
    rcases List.mem_append.1 ht with h5 | h5
    · exact h4.rows b ⟨t, h5, hb⟩ ⟨v, hv, hb'⟩
    · rw [List.mem_singleton.1 h5] at hb
      have := hu.blk_ge b hb
      have := (h2.2.1 v hv).blk_lt b hb'
      omega
  · rintro b ⟨t, ht, hb⟩ hb'
    rcases List.mem_append.1 ht with h5 | h5
    · exact h4.wo b ⟨t, h5, hb⟩ hb'
    · rw [List.mem_singleton.1 h5] at hb
      have := hu.blk_ge b hb
      have := h3.blk_lt b hb'
      omega
  · intro b hb hb'
    rcases hA with e | e
    · exact h4.spine b (e ▸ hb) hb'
    · rw [e] at hb; cases hb
      have := h2.1.blk_lt _ hb'
      have := z.size
      omega
theorem FmO.snocR {wa w2 : World} {B2 : Option Addr} {d2 kk : Nat} {u : Sl} (h : FmO wa lo A c ts B d us C k os) (z : Below wa.heap.size wa w) (hs : Own w2 lo 26 1 B2 (us.length + 1) d2 (us.map Sl.val ++ [u.val])) (hg : w.grownBy w2 (blk B)) (hB : blk B2 = blk B ∨ blk B2 = some w.heap.size)
    (hu : Own w kk 2 1 u.A u.xs.length u.c (ints u.xs)) (hk : wa.heap.size ≤ kk) (hlk : lo ≤ kk) : FmO w2 lo A c ts B2 d2 (us ++ [u]) C k os := (h.swap.snocW z hs hg hB hu hk hlk).swap
/-- One more offset. -/
theorem FmO.snocO {wa w2 : World} {C2 : Option Addr} {k2 : Nat} {x : Int} (h : FmO wa lo A c ts B d us C k os) (z : Below wa.heap.size wa w) (hs : Own w2 lo 2 1 C2 (os.length + 1) k2 (ints os ++ [.int .i64 x])) (hg : w.grownBy w2 (blk C)) (hC : blk C2 = blk C ∨ blk C2 = some w.heap.size) : FmO w2 lo A c ts B d us C2 k2 (os ++ [x]) := by
  obtain ⟨h1, h2, h3, h4⟩ := h
  have hne : (2 : TypeId) ≠ 26 := by decide
  have keep : ∀ b, b < w.heap.size → blk C ≠ some b → w2.heap[b]? = w.heap[b]? := fun b hb hne => hg.block b hb (fun e => hne e.symm)
  refine ⟨?_, ?_, by rw [List.length_append]; simpa [ints] using hs, h4.rows, ?_, ?_, h4.spine⟩
  · refine (h1.below z).keptR fun b hb => keep b ?_ ?_
    · rcases hb with hb | ⟨t, ht, hb⟩
      · exact (h1.below z).1.blk_lt b hb
      · exact ((h1.below z).2.1 t ht).blk_lt b hb
    · rcases hb with hb | hb
      · exact h1.own_ne h3 hne b hb
      · exact h4.wo b hb
  · refine (h2.below z).keptR fun b hb => keep b ?_ ?_
    · rcases hb with hb | ⟨t, ht, hb⟩
      · exact (h2.below z).1.blk_lt b hb
      · exact ((h2.below z).2.1 t ht).blk_lt b hb
    · rcases hb with hb | hb
      · exact h2.own_ne h3 hne b hb
      · exact h4.ro b hb
  · rintro b ⟨t, ht, hb⟩ hb'
    rcases hC with e | e
    · exact h4.wo b ⟨t, ht, hb⟩ (e ▸ hb')
    · rw [e] at hb'; cases hb'
      have := (h1.2.1 t ht).blk_lt _ hb
      have := z.size
      omega
  · rintro b ⟨t, ht, hb⟩ hb'
    rcases hC with e | e
    · exact h4.ro b ⟨t, ht, hb⟩ (e ▸ hb')
    · rw [e] at hb'; cases hb'
      have := (h2.2.1 t ht).blk_lt _ hb
      have := z.size
      omega
end
/-- No walls and no repeaters yet. -/
theorem FmO.start {w : World} {lo k : Nat} {C : Option Addr} {os : List Int} (h : Own w lo 2 1 C os.length k (ints os)) : FmO w lo none 0 [] none 0 [] C k os :=
  ⟨⟨⟨rfl, .inl ⟨rfl, rfl, rfl⟩⟩, by simp, List.Pairwise.nil⟩, ⟨⟨rfl, .inl ⟨rfl, rfl, rfl⟩⟩, by simp, List.Pairwise.nil⟩, h, ⟨fun _ ⟨_, ht, _⟩ => absurd ht List.not_mem_nil, fun _ ⟨_, ht, _⟩ => absurd ht List.not_mem_nil, fun _ ⟨_, ht, _⟩ => absurd ht List.not_mem_nil, fun _ h => by cases h⟩⟩
/-- A store of six cells. -/
theorem fm_set {w : World} {g : Nat} {t : TypeId} {v0 v1 v2 v3 v4 v5 : Value} (h : Blk w g t #[v0, v1, v2, v3, v4, v5]) (a b c d e f : Value) :
    Blk ((((((w.setCell ⟨g, 0, none⟩ a).setCell ⟨g, 1, none⟩ b).setCell ⟨g, 2, none⟩ c).setCell ⟨g, 3, none⟩ d).setCell ⟨g, 4, none⟩ e).setCell ⟨g, 5, none⟩ f) g t #[a, b, c, d, e, f] :=
  (((((h.set_ 0 a).set_ 1 b).set_ 2 c).set_ 3 d).set_ 4 e).set_ 5 f
theorem fm_below {w0 w : World} {lo g : Nat} (h : Below lo w0 w) (hl : lo ≤ g) (a b c d e f : Value) :
    Below lo w0 ((((((w.setCell ⟨g, 0, none⟩ a).setCell ⟨g, 1, none⟩ b).setCell ⟨g, 2, none⟩ c).setCell ⟨g, 3, none⟩ d).setCell ⟨g, 4, none⟩ e).setCell ⟨g, 5, none⟩ f) :=
  (((((h.setCell hl _).setCell hl _).setCell hl _).setCell hl _).setCell hl _).setCell hl _
theorem fm_kept {w : World} {g : Nat} (a b c d e f : Value) : ∀ k, k ≠ g →
    ((((((w.setCell ⟨g, 0, none⟩ a).setCell ⟨g, 1, none⟩ b).setCell ⟨g, 2, none⟩ c).setCell ⟨g, 3, none⟩ d).setCell ⟨g, 4, none⟩ e).setCell ⟨g, 5, none⟩ f).heap[k]? = w.heap[k]? := fun _k hk =>
  (Below.heap_setCell _ _ _ _ hk).trans ((Below.heap_setCell _ _ _ _ hk).trans ((Below.heap_setCell _ _ _ _ hk).trans ((Below.heap_setCell _ _ _ _ hk).trans ((Below.heap_setCell _ _ _ _ hk).trans (Below.heap_setCell _ _ _ _ hk)))))
/-- A store of eleven cells. -/
theorem bn_set {w : World} {g : Nat} {t : TypeId} {v0 v1 v2 v3 v4 v5 v6 v7 v8 v9 v10 : Value} (h : Blk w g t #[v0, v1, v2, v3, v4, v5, v6, v7, v8, v9, v10]) (a0 a1 a2 a3 a4 a5 a6 a7 a8 a9 a10 : Value) :
    Blk (((((((((((w.setCell ⟨g, 0, none⟩ a0).setCell ⟨g, 1, none⟩ a1).setCell ⟨g, 2, none⟩ a2).setCell ⟨g, 3, none⟩ a3).setCell ⟨g, 4, none⟩ a4).setCell ⟨g, 5, none⟩ a5).setCell ⟨g, 6, none⟩ a6).setCell ⟨g, 7, none⟩ a7).setCell ⟨g, 8, none⟩ a8).setCell ⟨g, 9, none⟩ a9).setCell ⟨g, 10, none⟩ a10) g t #[a0, a1, a2, a3, a4, a5, a6, a7, a8, a9, a10] := by
  have h0 := h.set_ 0 a0
  simp only [List.setIfInBounds_toArray, List.set_cons_zero] at h0
  have h1 := h0.set_ 1 a1
  simp only [List.setIfInBounds_toArray, List.set_cons_zero, List.set_cons_succ] at h1
  have h2 := h1.set_ 2 a2
  simp only [List.setIfInBounds_toArray, List.set_cons_zero, List.set_cons_succ] at h2
  have h3 := h2.set_ 3 a3
  simp only [List.setIfInBounds_toArray, List.set_cons_zero, List.set_cons_succ] at h3
  have h4 := h3.set_ 4 a4
  simp only [List.setIfInBounds_toArray, List.set_cons_zero, List.set_cons_succ] at h4
  have h5 := h4.set_ 5 a5
  simp only [List.setIfInBounds_toArray, List.set_cons_zero, List.set_cons_succ] at h5
  have h6 := h5.set_ 6 a6
  simp only [List.setIfInBounds_toArray, List.set_cons_zero, List.set_cons_succ] at h6
  have h7 := h6.set_ 7 a7
  simp only [List.setIfInBounds_toArray, List.set_cons_zero, List.set_cons_succ] at h7
  have h8 := h7.set_ 8 a8
  simp only [List.setIfInBounds_toArray, List.set_cons_zero, List.set_cons_succ] at h8
  have h9 := h8.set_ 9 a9
  simp only [List.setIfInBounds_toArray, List.set_cons_zero, List.set_cons_succ] at h9
  have h10 := h9.set_ 10 a10
  simp only [List.setIfInBounds_toArray, List.set_cons_zero, List.set_cons_succ] at h10
  exact h10
theorem bn_below {w0 w : World} {lo g : Nat} (h : Below lo w0 w) (hl : lo ≤ g) (a0 a1 a2 a3 a4 a5 a6 a7 a8 a9 a10 : Value) : Below lo w0 (((((((((((w.setCell ⟨g, 0, none⟩ a0).setCell ⟨g, 1, none⟩ a1).setCell ⟨g, 2, none⟩ a2).setCell ⟨g, 3, none⟩ a3).setCell ⟨g, 4, none⟩ a4).setCell ⟨g, 5, none⟩ a5).setCell ⟨g, 6, none⟩ a6).setCell ⟨g, 7, none⟩ a7).setCell ⟨g, 8, none⟩ a8).setCell ⟨g, 9, none⟩ a9).setCell ⟨g, 10, none⟩ a10) := (((((((((((h.setCell hl _).setCell hl _).setCell hl _).setCell hl _).setCell hl _).setCell hl _).setCell hl _).setCell hl _).setCell hl _).setCell hl _).setCell hl _)
theorem bn_kept {w : World} {g : Nat} (a0 a1 a2 a3 a4 a5 a6 a7 a8 a9 a10 : Value) : ∀ k, k ≠ g → (((((((((((w.setCell ⟨g, 0, none⟩ a0).setCell ⟨g, 1, none⟩ a1).setCell ⟨g, 2, none⟩ a2).setCell ⟨g, 3, none⟩ a3).setCell ⟨g, 4, none⟩ a4).setCell ⟨g, 5, none⟩ a5).setCell ⟨g, 6, none⟩ a6).setCell ⟨g, 7, none⟩ a7).setCell ⟨g, 8, none⟩ a8).setCell ⟨g, 9, none⟩ a9).setCell ⟨g, 10, none⟩ a10).heap[k]? = w.heap[k]? := fun _k hk => ((Below.heap_setCell _ _ _ _ hk).trans ((Below.heap_setCell _ _ _ _ hk).trans ((Below.heap_setCell _ _ _ _ hk).trans ((Below.heap_setCell _ _ _ _ hk).trans ((Below.heap_setCell _ _ _ _ hk).trans ((Below.heap_setCell _ _ _ _ hk).trans ((Below.heap_setCell _ _ _ _ hk).trans ((Below.heap_setCell _ _ _ _ hk).trans ((Below.heap_setCell _ _ _ _ hk).trans ((Below.heap_setCell _ _ _ _ hk).trans (Below.heap_setCell _ _ _ _ hk)))))))))))
theorem own_ne_blk {w : World} {g lo s n' c' : Nat} {t e : TypeId} {cs : Array Value} {X : Option Addr} {xs : List Value} (h : Blk w g t cs) (h' : Own w lo e s X n' c' xs) (hne : t ≠ e) : ∀ b, blk X = some b → b ≠ g := fun _b hb e2 => h.aptt h' hne (e2 ▸ hb)
/-- What FormulaOf, StepFormula and RunFormula return first. -/
def FmR (w : World) (lo : Nat) (f : Fm) (A : Option Addr) (c : Nat) (ts : List Sl) (B : Option Addr) (d : Nat) (us : List Sl) (C : Option Addr) (k : Nat) : Prop :=
  FmO w lo A c ts B d us C k f.O ∧ nums ts = f.W ∧ nums us = f.R
theorem FmR.below {w w' : World} {lo c d k : Nat} {f : Fm} {A B C : Option Addr} {ts us : List Sl} (h : FmR w lo f A c ts B d us C k) (z : Below w.heap.size w w') : FmR w' lo f A c ts B d us C k := ⟨h.1.below z, h.2⟩
theorem FmR.mono {w : World} {lo lo' c d k : Nat} {f : Fm} {A B C : Option Addr} {ts us : List Sl} (h : FmR w lo f A c ts B d us C k) (hl : lo' ≤ lo) : FmR w lo' f A c ts B d us C k := ⟨h.1.mono hl, h.2⟩
theorem FmR.zero (w : World) (lo : Nat) : FmR w lo Fm.zero none 0 [] none 0 [] none 0 := ⟨FmO.zero w lo, rfl, rfl⟩
/-- A formula tape behind a pointer. -/
def FmAt (w : World) (g : Nat) (f : Fm) (A : Option Addr) (n c : Nat) (B : Option Addr) (m d : Nat) (C : Option Addr) (l k : Nat) : Prop :=
  w.cell? ⟨g, 0, none⟩ = some (.int .i64 f.q) ∧ w.cell? ⟨g, 1, none⟩ = some (.int .i64 f.h) ∧ w.cell? ⟨g, 2, none⟩ = some (.int .i64 f.a) ∧ w.cell? ⟨g, 3, none⟩ = some (.slice A n c) ∧ w.cell? ⟨g, 4, none⟩ = some (.slice B m d) ∧ w.cell? ⟨g, 5, none⟩ = some (.slice C l k)
theorem Blk.fmAt {w : World} {g : Nat} {t : TypeId} {q h a : Int} {A B C : Option Addr} {n c m d l k : Nat} (hb : Blk w g t #[.int .i64 q, .int .i64 h, .int .i64 a, .slice A n c, .slice B m d, .slice C l k]) (W R : List (List Int)) (O : List Int) : FmAt w g ⟨q, h, a, W, R, O⟩ A n c B m d C l k :=
  ⟨hb.cell 0, hb.cell 1, hb.cell 2, hb.cell 3, hb.cell 4, hb.cell 5⟩
def NewFmI (w : World) (r : Fm × Int) (e : Ending) (w' : World) : Prop :=
  ∃ A c ts B d us C k, e = .returned (.tuple #[.agg #[.int .i64 r.1.q, .int .i64 r.1.h, .int .i64 r.1.a, .slice A ts.length c, .slice B us.length d, .slice C r.1.O.length k], .int .i64 r.2]) ∧ FmR w' w.heap.size r.1 A c ts B d us C k ∧ Below w.heap.size w w'
end Go.Proofs.Ytbpofkggoolmpaa

/-
  Formula tapes in memory: a row replaced, an offset stored; the rule that a machine has for a state and a symbol.
-/
namespace Go.Proofs.Ytbpofkggoolmpaa
open Go.RowKit

theorem nums_set (ts : List Sl) (i : Nat) (u : Sl) : nums (ts.set i u) = (nums ts).set i u.xs := by unfold nums; rw [List.map_set]
/-- The row with number i replaced by one in its own block or in a new one; nothing else that belongs to the tape has turned. -/
theorem FmO.repl {w w' : World} {lo c d k : Nat} {A B C : Option Addr} {ts us : List Sl} {os : List Int} {i : Nat} {t u : Sl} (h : FmO w lo A c ts B d us C k os) (hT : ts[i]? = some t)
    (hs : Own w' lo 26 1 A ts.length c ((ts.set i u).map Sl.val)) (hu : Own w' lo 2 1 u.A u.xs.length u.c (ints u.xs)) (hub : blk u.A = blk t.A ∨ ∀ b, blk u.A = some b → w.heap.size ≤ b)
    (hk : ∀ b, b < w.heap.size → blk A ≠ some b → blk t.A ≠ some b → w'.heap[b]? = w.heap[b]?) : FmO w' lo A c (ts.set i u) B d us C k os := by
  obtain ⟨h1, h2, h3, h4⟩ := h
  have hne : (2 : TypeId) ≠ 26 := by decide
  have htm : t ∈ ts := List.mem_of_getElem? hT
  have hi : i < ts.length := (List.getElem?_eq_some_iff.1 hT).1
  have hset : ∀ x ∈ ts.set i u, x = u ∨ ∃ j, j ≠ i ∧ ts[j]? = some x := by
    intro x hx
    obtain ⟨j, hj⟩ := List.mem_iff_getElem?.1 hx
    rw [List.getElem?_set] at hj
    by_cases hij : i = j
    · rw [if_pos hij, if_pos hi] at hj
      exact .inl (Option.some.inj hj).symm
    · rw [if_neg hij] at hj
      exact .inr ⟨j, fun e => hij e.symm, hj⟩
  have apt : ∀ j x, j ≠ i → ts[j]? = some x → ∀ b, blk x.A = some b → blk t.A ≠ some b := by
    intro j x hji hx b hb hb'
    obtain ⟨hj, e1⟩ := List.getElem?_eq_some_iff.1 hx
    obtain ⟨_, e2⟩ := List.getElem?_eq_some_iff.1 hT
    have hp := List.pairwise_iff_getElem.1 h1.2.2
    rcases Nat.lt_or_gt_of_ne hji with hlt | hlt
    · have := hp j i hj hi hlt
      rw [e1, e2] at this
      exact this b hb hb'
    · have := hp i j hi hj hlt
      rw [e1, e2] at this
      exact this b hb' hb
  have rowA : ∀ x ∈ ts, ∀ b, blk x.A = some b → blk A ≠ some b := fun x hx b hb e => (h1.2.1 x hx).blk_ne h1.1 hne b hb e
  have hapu : ∀ j x, j ≠ i → ts[j]? = some x → ∀ b, blk x.A = some b → blk u.A ≠ some b := by
    intro j x hji hx b hb hb'
    rcases hub with e | e
    · exact apt j x hji hx b hb (e ▸ hb')
    · have := e b hb'
      have := (h1.2.1 x (List.mem_of_getElem? hx)).blk_lt b hb
      omega
  refine ⟨⟨by rw [List.length_set]; exact hs, ?_, ?_⟩, ?_, ?_, ?_, ?_, h4.ro, h4.spine⟩
  · intro x hx
    rcases hset x hx with rfl | ⟨j, hji, hj⟩
    · exact hu
    · have hx' := List.mem_of_getElem? hj
      exact (h1.2.1 x hx').kept fun b hb _ hlt => hk b hlt (rowA x hx' b hb) (apt j x hji hj b hb)
  · rw [List.pairwise_iff_getElem]
    intro j l hj hl hjl b hb hb'
    rw [List.length_set] at hj hl
    have hp := List.pairwise_iff_getElem.1 h1.2.2 j l hj hl hjl
    rw [List.getElem_set] at hb hb'
    by_cases e1 : i = j
    · rw [if_pos e1] at hb
      have e2 : ¬ i = l := by omega
      rw [if_neg e2] at hb'
      exact hapu l ts[l] (fun e => e2 e.symm) (List.getElem?_eq_getElem hl) b hb' hb
    · rw [if_neg e1] at hb
      by_cases e2 : i = l
      · rw [if_pos e2] at hb'
        exact hapu j ts[j] (fun e => e1 e.symm) (List.getElem?_eq_getElem hj) b hb hb'
      · rw [if_neg e2] at hb'
        exact hp b hb hb'
  · refine h2.keptR fun b hb => hk b ?_ ?_ ?_
    · rcases hb with hb | ⟨x, hx, hb⟩
      · exact h2.1.blk_lt b hb
      · exact (h2.2.1 x hx).blk_lt b hb
    · rcases hb with hb | hb
      · exact fun e => h4.spine b e hb
      · exact fun e => h1.spine_ne h2 hne b e hb
    · rcases hb with hb | hb
      · exact fun e => h2.spine_ne h1 hne b hb ⟨t, htm, e⟩
      · exact fun e => h4.rows b ⟨t, htm, e⟩ hb
  · exact h3.kept fun b hb _ hlt => hk b hlt (fun e => h1.own_ne h3 hne b e hb) (fun e => h4.wo b ⟨t, htm, e⟩ hb)
  · rintro b ⟨x, hx, hb⟩ hr
    rcases hset x hx with rfl | ⟨j, hji, hj⟩
    · rcases hub with e | e
      · exact h4.rows b ⟨t, htm, e ▸ hb⟩ hr
      · obtain ⟨v, hv, hb'⟩ := hr
        have := e b hb
        have := (h2.2.1 v hv).blk_lt b hb'
        omega
    · exact h4.rows b ⟨x, List.mem_of_getElem? hj, hb⟩ hr
  · rintro b ⟨x, hx, hb⟩ hc
    rcases hset x hx with rfl | ⟨j, hji, hj⟩
    · rcases hub with e | e
      · exact h4.wo b ⟨t, htm, e ▸ hb⟩ hc
      · have := e b hb
        have := h3.blk_lt b hc
        omega
    · exact h4.wo b ⟨x, List.mem_of_getElem? hj, hb⟩ hc
section
variable {w : World} {lo c d k : Nat} {A B C : Option Addr} {ts us : List Sl} {os : List Int}
/-- A symbol of a wall. -/
theorem FmO.setW (h : FmO w lo A c ts B d us C k os) {i j : Nat} {t : Sl} (hT : ts[i]? = some t) {b off : Nat} (hA : t.A = some ⟨b, off, none⟩) (hj : j < t.xs.length) (v : Int) : FmO (w.setCell ⟨b, off + j, none⟩ (.int .i64 v)) lo A c (ts.set i ⟨t.A, t.c, t.xs.set j v⟩) B d us C k os := by
  have hne : (2 : TypeId) ≠ 26 := by decide
  have htm : t ∈ ts := List.mem_of_getElem? hT
  have hrow := h.1.2.1 t htm
  have hbA : blk A ≠ some b := fun e => hrow.blk_ne h.1.1 hne b (by rw [hA]; rfl) e
  have hval : (ts.set i ⟨t.A, t.c, t.xs.set j v⟩).map Sl.val = ts.map Sl.val := by
    rw [List.map_set]
    apply List.ext_getElem?
    intro q
    rw [List.getElem?_set]
    by_cases e : i = q
    · subst e
      obtain ⟨hi, e2⟩ := List.getElem?_eq_some_iff.1 hT
      rw [if_pos rfl, if_pos (by simpa using hi), List.getElem?_map, hT]
      simp [Sl.val]
    · rw [if_neg e]
  refine FmO.repl h hT ?_ ?_ (.inl rfl) ?_
  · rw [hval]; exact h.1.1.far (p := ⟨b, off + j, none⟩) hbA _
  · rw [hA] at hrow
    have := hrow.set_ (k := j) (by simpa [ints] using hj) (.int .i64 v)
    rw [hA]
    simpa [ints] using this
  · intro q _ _ hq
    refine Below.heap_setCell _ _ _ _ fun e => hq ?_
    rw [hA]; subst e; rfl
/-- A wall that lies in new memory. -/
theorem FmO.putW {wa : World} (h : FmO wa lo A c ts B d us C k os) (z : Below wa.heap.size wa w) {i : Nat} {t u : Sl} (hT : ts[i]? = some t) {b off kk : Nat} (hA : A = some ⟨b, off, none⟩) (hu : Own w kk 2 1 u.A u.xs.length u.c (ints u.xs)) (hk : wa.heap.size ≤ kk) (hl : lo ≤ kk) : FmO (w.setCell ⟨b, off + i, none⟩ u.val) lo A c (ts.set i u) B d us C k os := by
  have hne : (2 : TypeId) ≠ 26 := by decide
  have hi : i < ts.length := (List.getElem?_eq_some_iff.1 hT).1
  have hw := h.below z
  have hub : ∀ q, blk u.A = some q → wa.heap.size ≤ q := fun q hq => Nat.le_trans hk (hu.blk_ge q hq)
  have hbu : blk u.A ≠ some b := fun e => hu.blk_ne hw.1.1 hne b e (by rw [hA]; rfl)
  refine FmO.repl h hT ?_ ?_ (.inr hub) ?_
  · rw [List.map_set]
    have := hw.1.1
    rw [hA] at this ⊢
    exact this.set_ (k := i) (by simpa using hi) _
  · exact (hu.mono hl).far (p := ⟨b, off + i, none⟩) hbu _
  · intro q hq hqA _
    refine (Below.heap_setCell _ _ _ _ fun e => hqA ?_).trans (z.block q hq)
    rw [hA]; subst e; rfl
/-- A wall that has grown where it lies, or has moved. -/
theorem FmO.growW {w2 : World} (h : FmO w lo A c ts B d us C k os) {i : Nat} {t u : Sl} (hT : ts[i]? = some t) {b off : Nat} (hA : A = some ⟨b, off, none⟩) (hu : Own w2 lo 2 1 u.A u.xs.length u.c (ints u.xs)) (hg : w.grownBy w2 (blk t.A)) (hub : blk u.A = blk t.A ∨ blk u.A = some w.heap.size) : FmO (w2.setCell ⟨b, off + i, none⟩ u.val) lo A c (ts.set i u) B d us C k os := by
  have hne : (2 : TypeId) ≠ 26 := by decide
  have htm : t ∈ ts := List.mem_of_getElem? hT
  have hi : i < ts.length := (List.getElem?_eq_some_iff.1 hT).1
  have hrow := h.1.2.1 t htm
  have hsp : Own w2 lo 26 1 A ts.length c (ts.map Sl.val) := h.1.1.grown hg fun g hg' hb => hrow.blk_ne h.1.1 hne g hg' hb
  have hbu : blk u.A ≠ some b := fun e => hu.blk_ne hsp hne b e (by rw [hA]; rfl)
  refine FmO.repl h hT ?_ ?_ (hub.imp id fun e q hq => by rw [e] at hq; cases hq; exact Nat.le_refl _) ?_
  · rw [List.map_set]
    rw [hA] at hsp ⊢
    exact hsp.set_ (k := i) (by simpa using hi) _
  · exact hu.far (p := ⟨b, off + i, none⟩) hbu _
  · intro q hq hqA hqt
    refine (Below.heap_setCell _ _ _ _ fun e => hqA ?_).trans (hg.block q hq fun e => hqt e.symm)
    rw [hA]; subst e; rfl
/-- A repeater that lies in new memory. -/
theorem FmO.putR {wa : World} (h : FmO wa lo A c ts B d us C k os) (z : Below wa.heap.size wa w) {i : Nat} {t u : Sl} (hT : us[i]? = some t) {b off kk : Nat} (hB : B = some ⟨b, off, none⟩) (hu : Own w kk 2 1 u.A u.xs.length u.c (ints u.xs)) (hk : wa.heap.size ≤ kk) (hl : lo ≤ kk) : FmO (w.setCell ⟨b, off + i, none⟩ u.val) lo A c ts B d (us.set i u) C k os :=
  (h.swap.putW z hT hB hu hk hl).swap
/-- An offset. -/
theorem FmO.setO (h : FmO w lo A c ts B d us C k os) {i : Nat} (hi : i < os.length) {b off : Nat} (hC : C = some ⟨b, off, none⟩) (v : Int) : FmO (w.setCell ⟨b, off + i, none⟩ (.int .i64 v)) lo A c ts B d us C k (os.set i v) := by
  obtain ⟨h1, h2, h3, h4⟩ := h
  have hne : (2 : TypeId) ≠ 26 := by decide
  have hbC : blk C = some b := by rw [hC]; rfl
  have keep : ∀ q, q ≠ b → (w.setCell ⟨b, off + i, none⟩ (.int .i64 v)).heap[q]? = w.heap[q]? := fun q hq => Below.heap_setCell _ _ _ _ hq
  refine ⟨h1.keptR fun q hq => keep q ?_, h2.keptR fun q hq => keep q ?_, ?_, h4⟩
  · rintro rfl
    rcases hq with hq | hq
    · exact h1.own_ne h3 hne q hq hbC
    · exact h4.wo q hq hbC
  · rintro rfl
    rcases hq with hq | hq
    · exact h2.own_ne h3 hne q hq hbC
    · exact h4.ro q hq hbC
  · rw [hC] at h3 ⊢
    have := h3.set_ (k := i) (by simpa [ints] using hi) (.int .i64 v)
    simpa [ints] using this
end

theorem machB_len2 {sy st : Int} {rs : List R3} (hm : machB sy st rs = true) : 2 ≤ rs.length := by
  obtain ⟨p1, p2, p3, p4, p5, p6⟩ := machB_parts hm
  have h : 1 * 2 ≤ st * sy := Int.mul_le_mul p3 p1 (by decide) (by omega)
  omega
/-- The place of a rule, and what it says. -/
theorem rule_parts {sy st q s : Int} {rs : List R3} (hm : machB sy st rs = true) (hq0 : 0 ≤ q) (hq1 : q ≤ st - 1) (hs0 : 0 ≤ s) (hs1 : s ≤ sy - 1) :
    ∃ idx : Nat, q * sy + s = (idx : Int) ∧ idx < rs.length ∧ rs[idx]? = some (ruleAt sy rs q s) ∧ 0 ≤ q * sy ∧ q * sy ≤ 6000 ∧ validRuleB sy st (ruleAt sy rs q s) = true := by
  obtain ⟨p1, p2, p3, p4, p5, p6⟩ := machB_parts hm
  have a1 : 0 ≤ q * sy := Int.mul_nonneg hq0 (by omega)
  have a2 : q * sy ≤ (st - 1) * sy := Int.mul_le_mul_of_nonneg_right hq1 (by omega)
  have a3 : (st - 1) * sy = st * sy - sy := by rw [Int.sub_mul]; omega
  have a4 : st * sy ≤ 1000 * sy := Int.mul_le_mul_of_nonneg_right p4 (by omega)
  have hlt : (q * sy + s).toNat < rs.length := by omega
  have hget : rs[(q * sy + s).toNat]? = some (ruleAt sy rs q s) := by
    unfold ruleAt
    rw [List.getD_eq_getElem?_getD, List.getElem?_eq_getElem hlt]; rfl
  exact ⟨(q * sy + s).toNat, by omega, hlt, hget, a1, by omega, p6 _ (List.mem_of_getElem? hget)⟩
end Go.Proofs.Ytbpofkggoolmpaa

/-
  Contracts of impl's small functions that the tag systems use.
-/
namespace Go.Proofs.Ytbpofkggoolmpaa
open Go.RowKit

theorem sizeII_any (A : Option Addr) (n c : Nat) (w : World) (_h : n ≤ 9223372036854775807) :
    Calls Try.prog 170 #[.slice A n c] w fun e w' => e = .returned (.int .i64 n) ∧ w = w' := by
  go_enter Try.func170, Try.ntmps170
  go_wp2
  go_ret
  exact ⟨rfl, rfl⟩
def tagWordB (xs : List Int) (letters : Int) : Bool := decide (xs.length ≤ 1000) && allIn xs 0 (letters - 1)
def risesB (xs : List Int) : Bool := decide (xs.Pairwise (· < ·))
theorem rises_next {xs : List Int} {k : Nat} (h : (xs.take k).Pairwise (· < ·)) (h0 : 1 ≤ k) (hk : k < xs.length) (hlt : xs[k - 1] < xs[k]) : (xs.take (k + 1)).Pairwise (· < ·) := by
  rw [List.take_succ_eq_append_getElem hk, List.pairwise_append]
  refine ⟨h, by simp, fun a ha b hb => ?_⟩
  simp at hb; subst hb
  obtain ⟨j, hj, rfl⟩ := List.getElem_of_mem ha
  simp at hj
  rw [List.getElem_take]
  by_cases hjk : j = k - 1
  · subst hjk; exact hlt
  · have h2 := List.pairwise_iff_getElem.1 h j (k - 1) (by simp; omega) (by simp; omega) (by omega)
    rw [List.getElem_take, List.getElem_take] at h2
    omega
theorem rises_not {xs : List Int} {k : Nat} (h0 : 1 ≤ k) (hk : k < xs.length) (hge : xs[k] ≤ xs[k - 1]) : false = risesB xs := by
  symm; unfold risesB; rw [decide_eq_false_iff_not]; intro h
  have := List.pairwise_iff_getElem.1 h (k - 1) k (by omega) hk (by omega)
  omega
theorem rises_end {xs : List Int} {k n : Nat} (hk : n ≤ k) (hl : xs.length = n) (h : (xs.take k).Pairwise (· < ·)) : true = risesB xs := by
  rw [List.take_of_length_le (by omega)] at h
  symm; unfold risesB; rw [decide_eq_true_iff]; exact h
set_option maxHeartbeats 400000 in
theorem indexFuncII_any (A : Option Addr) (n c : Nat) (ts : List Sl) (f : FuncId) (cp : Value) (p : List Int → Bool) (w : World) (hx : SII w A n ts) (hn : n ≤ 9223372036854775807) (hcall : ∀ (args : Array Value) (w : World), (callFunc f args).run Try.prog w = .ok (.enter f args) w)
    (hf : Hid (∀ t ∈ ts, Calls Try.prog f #[.slice t.A t.xs.length t.c, cp] w fun e w' => e = .returned (.bool (p t.xs)) ∧ w = w')) :
    Calls Try.prog 289 #[.slice A n c, .func (.func f) #[] #[cp]] w fun e w' => e = .returned (.int .i64 (firstB p (nums ts))) ∧ w = w' := by
  go_enter Try.func289, Try.ntmps289
  go_wp2
  go_loop [8] (fun i => ∃ k : Nat, k ≤ n ∧ i = .int .i64 k ∧ Hid (((nums ts).take k).any p = false)) (fun i => n - (intOf i).toNat)
  case atStart => exact ⟨0, by omega, rfl, rfl⟩
  case round =>
    obtain ⟨k, hk, rfl, he⟩ := hrel
    by_cases hlt : k < n
    · obtain ⟨t, b, off, hT, htm, rfl, _, hc, hr⟩ := hx.pick hlt
      go_wp2_with fail
      refine (hf.out t htm).mono ?_
      rintro e w' ⟨rfl, rfl⟩
      cases hp : p t.xs
      · have HP := Lib.hid hp
        clear hp
        go_wp2
        exact ⟨⟨k + 1, by omega, by go_num, firstB_next hT.out HP.out he.out⟩, by simp [intOf]; omega⟩
      · have HP := Lib.hid hp
        clear hp
        go_wp2
        go_ret
        exact ⟨ret_int (firstB_at hT.out HP.out he.out), rfl⟩
    · go_wp2
      go_ret
      exact ⟨ret_int (firstB_none (by omega) hx.len he.out), rfl⟩

set_option maxHeartbeats 400000 in
theorem containsFuncII_any (A : Option Addr) (n c : Nat) (ts : List Sl) (f : FuncId) (cp : Value) (p : List Int → Bool) (w : World) (hx : SII w A n ts) (hn : n ≤ 9223372036854775807) (hcall : ∀ (args : Array Value) (w : World), (callFunc f args).run Try.prog w = .ok (.enter f args) w)
    (hf : Hid (∀ t ∈ ts, Calls Try.prog f #[.slice t.A t.xs.length t.c, cp] w fun e w' => e = .returned (.bool (p t.xs)) ∧ w = w')) :
    Calls Try.prog 246 #[.slice A n c, .func (.func f) #[] #[cp]] w fun e w' => e = .returned (.bool ((nums ts).any p)) ∧ w = w' := by
  go_enter Try.func246, Try.ntmps246
  go_wp2_with (go_at_call 289; refine (indexFuncII_any _ _ _ ts _ _ p _ hx hn hcall hf).mono ?_; rintro e w' ⟨rfl, rfl⟩)
  go_ret
  exact ⟨ret_bool (firstB_ge p (nums ts)), rfl⟩

def wordsB (xss : List (List Int)) (letters : Int) : Bool := xss.all (fun xs => tagWordB xs letters)
theorem wordsB_not (xss : List (List Int)) (letters : Int) : (!xss.any (fun xs => !tagWordB xs letters)) = wordsB xss letters := by
  unfold wordsB; rw [List.not_any_eq_all_not]; simp

/-- Tag values: the struct as the walk has it. -/
abbrev tagV (d : Int) (A : Option Addr) (n c : Nat) (B : Option Addr) (m k : Nat) : Value := .agg #[.int .i64 d, .slice A n c, .slice B m k]

def validTagB (d : Int) (words : List (List Int)) (halting : List Int) : Bool :=
  inB d 1 4 && inB words.length 1 200 && wordsB words words.length && risesB halting && allIn halting 0 (words.length - 1)

def tagCodeF (d : Int) (words : List (List Int)) (halting xs : List Int) : Int := if validTagB d words halting && tagWordB xs words.length then 0 else 1
def haltsB (d : Int) (halting xs : List Int) : Bool := decide ((xs.length : Int) < d) || decide (xs.headD 0 ∈ halting)
end Go.Proofs.Ytbpofkggoolmpaa

/-
  Contract of impl.formulaOf: whether a formula tape is valid for a valid machine.
-/
namespace Go.Proofs.Ytbpofkggoolmpaa
open Go.RowKit

theorem rows_not {p : List Int → Bool} {ts : List Sl} {t : Sl} {k : Nat} (hT : ts[k]? = some t) (h : p t.xs = false) : (nums ts).all p = false := by
  rw [List.all_eq_false]
  exact ⟨t.xs, by simp only [nums, List.mem_map]; exact ⟨t, List.mem_of_getElem? hT, rfl⟩, by simpa using h⟩
theorem rows_next {p : List Int → Bool} {ts : List Sl} {t : Sl} {k : Nat} (hT : ts[k]? = some t) (h : p t.xs = true) (he : ((nums ts).take k).all p = true) : ((nums ts).take (k + 1)).all p = true := by
  obtain ⟨hk, rfl⟩ := List.getElem?_eq_some_iff.1 hT
  rw [List.take_succ_eq_append_getElem (by simpa [nums] using hk), List.all_append, he]
  simpa [nums] using h
theorem rows_end {p : List Int → Bool} {ts : List Sl} {k n : Nat} (hk : n ≤ k) (hl : ts.length = n) (he : ((nums ts).take k).all p = true) : (nums ts).all p = true := by
  rwa [List.take_of_length_le (by simp [nums]; omega)] at he
theorem nums_len (ts : List Sl) : (nums ts).length = ts.length := by simp [nums]
theorem rowAt_eq {ts : List Sl} {t : Sl} {k : Nat} (hT : ts[k]? = some t) : rowAt (nums ts) (k : Int) = t.xs := by
  unfold rowAt nums
  rw [Int.toNat_natCast, List.getD_eq_getElem?_getD, List.getElem?_map, hT]; rfl

set_option maxRecDepth 100000 in
set_option maxHeartbeats 4000000 in
theorem formulaOf_any (sy st : Int) (A0 : Option Addr) (n0 k0 : Nat) (q h a : Int) (A : Option Addr) (n c : Nat) (ts : List Sl) (B : Option Addr) (m d : Nat) (us : List Sl) (C : Option Addr) (l e : Nat) (os : List Int) (w : World) (hx : SII w A n ts) (hy : SII w B m us) (hz : SI w C l os)
    (hn : n ≤ 1048576) (hm : m ≤ 1048576) (hl : l ≤ 1048576) (hns : ∀ t ∈ ts, t.xs.length ≤ 1048576) (hms : ∀ t ∈ us, t.xs.length ≤ 1048576) (s1 : 2 ≤ sy) (s2 : sy ≤ 6) (s3 : 1 ≤ st) (s4 : st ≤ 1000) :
    Calls Try.prog 184 #[.agg #[.int .i64 sy, .int .i64 st, .slice A0 n0 k0], .agg #[.int .i64 q, .int .i64 h, .int .i64 a, .slice A n c, .slice B m d, .slice C l e]] w fun en w' => en = .returned (.bool (fmB sy st ⟨q, h, a, nums ts, nums us, os⟩)) ∧ Below w.heap.size w w' := by
  obtain ⟨W, hW_⟩ : ∃ W, W = (w.alloc (.cells #[.int .i64 sy, .int .i64 st, .slice A0 n0 k0] 36)).alloc (.cells #[.int .i64 q, .int .i64 h, .int .i64 a, .slice A n c, .slice B m d, .slice C l e] 31) := ⟨_, rfl⟩
  have s_1 : (w.alloc (.cells #[.int .i64 sy, .int .i64 st, .slice A0 n0 k0] 36)).heap.size = w.heap.size + 1 := by simp
  have b0 : Blk W w.heap.size 36 #[.int .i64 sy, .int .i64 st, .slice A0 n0 k0] := by rw [hW_]; exact (Blk.new w _ _).alloc _
  have b1 : Blk W (w.heap.size + 1) 31 #[.int .i64 q, .int .i64 h, .int .i64 a, .slice A n c, .slice B m d, .slice C l e] := by rw [hW_, ← s_1]; exact Blk.new _ _ _
  have y0 : Below w.heap.size w W := by rw [hW_]; exact ((Below.refl _ _).alloc (Nat.le_refl _) _).alloc (by simp) _
  have HW := Lib.hid hW_
  clear hW_ s_1
  have u0 : W.cell? ⟨w.heap.size, 0, none⟩ = some (.int .i64 sy) := b0.cell 0
  have u1 : W.cell? ⟨w.heap.size, 1, none⟩ = some (.int .i64 st) := b0.cell 1
  have u2 : W.cell? ⟨w.heap.size, 2, none⟩ = some (.slice A0 n0 k0) := b0.cell 2
  have v0 : W.cell? ⟨(w.heap.size + 1), 0, none⟩ = some (.int .i64 q) := b1.cell 0
  have v1 : W.cell? ⟨(w.heap.size + 1), 1, none⟩ = some (.int .i64 h) := b1.cell 1
  have v2 : W.cell? ⟨(w.heap.size + 1), 2, none⟩ = some (.int .i64 a) := b1.cell 2
  have v3 : W.cell? ⟨(w.heap.size + 1), 3, none⟩ = some (.slice A n c) := b1.cell 3
  have v4 : W.cell? ⟨(w.heap.size + 1), 4, none⟩ = some (.slice B m d) := b1.cell 4
  have v5 : W.cell? ⟨(w.heap.size + 1), 5, none⟩ = some (.slice C l e) := b1.cell 5
  have HLN : Hid ((nums ts).length = n) := Lib.hid (by rw [nums_len]; exact hx.len)
  have HLM : Hid ((nums us).length = m) := Lib.hid (by rw [nums_len]; exact hy.len)
  have HLO : Hid (os.length = l) := Lib.hid hz.len
  have HTL := Lib.hid hx.len
  have HUL := Lib.hid hy.len
  have HNS := Lib.hid hns
  have HMS := Lib.hid hms
  have hX := hx.below y0
  have hY := hy.below y0
  have hZ := hz.below y0
  clear hns hms hx hy hz
  cases a1 : inB q 0 (st - 1)
  · have A1 := Lib.hid a1
    clear a1
    go_enter Try.func184, Try.ntmps184
    go_wp2_with (first
      | (go_at_call 170; refine (sizeII_any _ _ _ _ (by omega)).mono ?_; rintro e w' ⟨rfl, rfl⟩)
      | (go_at_call 104; refine (within_is A1.out _).mono ?_; rintro e w' ⟨rfl, rfl⟩))
    go_ret
    exact ⟨ret_bool (by unfold fmB shapeB; simp [A1.out]), by rw [← HW.out]; exact y0⟩
  have A1 := Lib.hid a1
  clear a1
  cases a2 : inB (m : Int) 1 3
  · have A2 := Lib.hid a2
    clear a2
    go_enter Try.func184, Try.ntmps184
    go_wp2_with (first
      | (go_at_call 170; refine (sizeII_any _ _ _ _ (by omega)).mono ?_; rintro e w' ⟨rfl, rfl⟩)
      | (go_at_call 104; (with_reducible refine (within_is A1.out _).mono ?_); rintro e w' ⟨rfl, rfl⟩)
      | (go_at_call 104; (with_reducible refine (within_is A2.out _).mono ?_); rintro e w' ⟨rfl, rfl⟩))
    go_ret
    exact ⟨ret_bool (by unfold fmB shapeB; simp [HLM.out, A2.out]), by rw [← HW.out]; exact y0⟩
  have A2 := Lib.hid a2
  have hm3 := (inB_iff _ _ _).1 a2
  clear a2
  by_cases a3 : n = m + 1
  rotate_left
  · have A3 := Lib.hid a3
    have i3 : ¬ (n : Int) = (m : Int) + 1 := by omega
    clear a3
    go_enter Try.func184, Try.ntmps184
    go_wp2_with (first
      | (go_at_call 170; refine (sizeII_any _ _ _ _ (by omega)).mono ?_; rintro e w' ⟨rfl, rfl⟩)
      | (go_at_call 104; (with_reducible refine (within_is A1.out _).mono ?_); rintro e w' ⟨rfl, rfl⟩)
      | (go_at_call 104; (with_reducible refine (within_is A2.out _).mono ?_); rintro e w' ⟨rfl, rfl⟩))
    go_ret
    exact ⟨ret_bool (by unfold fmB shapeB; simp [HLM.out, HLN.out, A3.out]), by rw [← HW.out]; exact y0⟩
  subst a3
  by_cases a4 : l = m
  rotate_left
  · have A4 := Lib.hid a4
    have i4 : ¬ (l : Int) = (m : Int) := by omega
    clear a4
    go_enter Try.func184, Try.ntmps184
    go_wp2_with (first
      | (go_at_call 170; refine (sizeII_any _ _ _ _ (by omega)).mono ?_; rintro e w' ⟨rfl, rfl⟩)
      | (go_at_call 258; refine (sizeI_any _ _ _ _ (by omega)).mono ?_; rintro e w' ⟨rfl, rfl⟩)
      | (go_at_call 104; (with_reducible refine (within_is A1.out _).mono ?_); rintro e w' ⟨rfl, rfl⟩)
      | (go_at_call 104; (with_reducible refine (within_is A2.out _).mono ?_); rintro e w' ⟨rfl, rfl⟩))
    go_ret
    exact ⟨ret_bool (by unfold fmB shapeB; simp [HLM.out, HLN.out, HLO.out, A4.out]), by rw [← HW.out]; exact y0⟩
  subst a4
  have HSH : Hid (shapeB st ⟨q, h, a, nums ts, nums us, os⟩ = true) := Lib.hid (shapeB_iff.2 ⟨A1.out, by show _ ≤ (nums us).length; rw [HLM.out]; omega, by show (nums us).length ≤ _; rw [HLM.out]; omega, by show (nums ts).length = (nums us).length + 1; rw [HLM.out, HLN.out], by show os.length = (nums us).length; rw [HLM.out, HLO.out]⟩)
  have wr1 : IntKind.i64.wrap (sy - 1) = sy - 1 := IntWalk.i64_in _ (by omega)
  go_enter Try.func184, Try.ntmps184
  go_wp2_with (first
    | (go_at_call 170; refine (sizeII_any _ _ _ _ (by omega)).mono ?_; rintro e w' ⟨rfl, rfl⟩)
    | (go_at_call 258; refine (sizeI_any _ _ _ _ (by omega)).mono ?_; rintro e w' ⟨rfl, rfl⟩)
    | (go_at_call 104; (with_reducible refine (within_is A1.out _).mono ?_); rintro e w' ⟨rfl, rfl⟩)
    | (go_at_call 104; (with_reducible refine (within_is A2.out _).mono ?_); rintro e w' ⟨rfl, rfl⟩))
  rw [← HW.out]
  go_loop [44] (fun i => ∃ k : Nat, k ≤ l + 1 ∧ i = .int .i64 k ∧ Hid (((nums ts).take k).all (wallB sy) = true)) (fun i => l + 1 - (intOf i).toNat)
  case atStart => exact ⟨0, by omega, rfl, Lib.hid (by simp)⟩
  case round =>
    obtain ⟨k, hk, rfl, he⟩ := hrel
    have i1 : (0 : Int) ≤ (k : Int) := by omega
    by_cases hlt : k < l + 1
    · obtain ⟨t, bb, off, hT, htm, rfl, _, hc, hr⟩ := hX.pick hlt
      have hnt := HNS.out t htm
      have i2 : (k : Int) < ((l + 1 : Nat) : Int) := by omega
      by_cases g1 : (100 : Int) < (t.xs.length : Int)
      · go_wp2_with fail
        go_ret
        exact ⟨ret_bool (by unfold fmB; rw [show (nums ts).all (wallB sy) = false from rows_not hT.out (by unfold wallB; rw [decide_eq_false (by omega)]; rfl)]; simp), y0⟩
      · have G1 := Lib.hid g1
        cases g2 : allIn t.xs 0 (sy - 1)
        · have G2 := Lib.hid g2
          clear g2
          go_wp2_with (go_at_call 239; refine (allWithin_any _ _ _ t.xs _ _ _ hr (by omega)).mono ?_; rw [G2.out]; rintro e w' ⟨rfl, rfl⟩)
          go_ret
          exact ⟨ret_bool (by unfold fmB; rw [show (nums ts).all (wallB sy) = false from rows_not hT.out (by unfold wallB; rw [G2.out]; simp)]; simp), y0⟩
        · have G2 := Lib.hid g2
          clear g2
          go_wp2_with (go_at_call 239; refine (allWithin_any _ _ _ t.xs _ _ _ hr (by omega)).mono ?_; rw [G2.out]; rintro e w' ⟨rfl, rfl⟩)
          go_round
          case rel => exact ⟨k + 1, by omega, by go_num, Lib.hid (rows_next hT.out (by unfold wallB; rw [G2.out, decide_eq_true (by have := G1.out; omega)]; rfl) he.out)⟩
          case measure => simp [intOf]; omega
    · have i2 : ¬ (k : Int) < ((l + 1 : Nat) : Int) := by omega
      have HWA : Hid ((nums ts).all (wallB sy) = true) := Lib.hid (rows_end (by omega) HTL.out he.out)
      clear he
      go_wp2_with fail
      go_loop [63] (fun i => ∃ k : Nat, k ≤ l ∧ i = .int .i64 k ∧ Hid (((nums us).take k).all (repB sy) = true)) (fun i => l - (intOf i).toNat)
      case atStart => exact ⟨0, by omega, rfl, Lib.hid (by simp)⟩
      case round =>
        obtain ⟨j, hj, rfl, he⟩ := hrel
        clear i1 i2 hlt hk
        have i1 : (0 : Int) ≤ (j : Int) := by omega
        by_cases hlt : j < l
        · obtain ⟨t, bb, off, hT, htm, rfl, _, hc, hr⟩ := hY.pick hlt
          have hnt := HMS.out t htm
          have i2 : (j : Int) < (l : Int) := by omega
          cases g1 : inB (t.xs.length : Int) 1 20
          · have G1 := Lib.hid g1
            clear g1
            go_wp2_with (first
              | (go_at_call 258; refine (sizeI_any _ _ _ _ (by omega)).mono ?_; rintro e w' ⟨rfl, rfl⟩)
              | (go_at_call 104; (with_reducible refine (within_is G1.out _).mono ?_); rintro e w' ⟨rfl, rfl⟩))
            go_ret
            exact ⟨ret_bool (by unfold fmB; rw [show (nums us).all (repB sy) = false from rows_not hT.out (by unfold repB; rw [G1.out]; rfl)]; simp), y0⟩
          · have G1 := Lib.hid g1
            clear g1
            cases g2 : allIn t.xs 0 (sy - 1)
            · have G2 := Lib.hid g2
              clear g2
              go_wp2_with (first
                | (go_at_call 258; refine (sizeI_any _ _ _ _ (by omega)).mono ?_; rintro e w' ⟨rfl, rfl⟩)
                | (go_at_call 104; (with_reducible refine (within_is G1.out _).mono ?_); rintro e w' ⟨rfl, rfl⟩)
                | (go_at_call 239; refine (allWithin_any _ _ _ t.xs _ _ _ hr (by omega)).mono ?_; rw [G2.out]; rintro e w' ⟨rfl, rfl⟩))
              go_ret
              exact ⟨ret_bool (by unfold fmB; rw [show (nums us).all (repB sy) = false from rows_not hT.out (by unfold repB; rw [G2.out]; simp)]; simp), y0⟩
            · have G2 := Lib.hid g2
              clear g2
              go_wp2_with (first
                | (go_at_call 258; refine (sizeI_any _ _ _ _ (by omega)).mono ?_; rintro e w' ⟨rfl, rfl⟩)
                | (go_at_call 104; (with_reducible refine (within_is G1.out _).mono ?_); rintro e w' ⟨rfl, rfl⟩)
                | (go_at_call 239; refine (allWithin_any _ _ _ t.xs _ _ _ hr (by omega)).mono ?_; rw [G2.out]; rintro e w' ⟨rfl, rfl⟩))
              go_round
              case rel => exact ⟨j + 1, by omega, by go_num, Lib.hid (rows_next hT.out (by unfold repB; rw [G1.out, G2.out]; rfl) he.out)⟩
              case measure => simp [intOf]; omega
        · have i2 : ¬ (j : Int) < (l : Int) := by omega
          have HRA : Hid ((nums us).all (repB sy) = true) := Lib.hid (rows_end (by omega) HUL.out he.out)
          clear he
          cases g1 : allIn os (-1000) 1000
          · have G1 := Lib.hid g1
            clear g1
            go_wp2_with (go_at_call 239; refine (allWithin_any _ _ _ os _ _ _ hZ (by omega)).mono ?_; rw [G1.out]; rintro e w' ⟨rfl, rfl⟩)
            go_ret
            exact ⟨ret_bool (by unfold fmB; simp [G1.out]), y0⟩
          have G1 := Lib.hid g1
          clear g1
          cases g2 : inB h 0 (l : Int)
          · have G2 := Lib.hid g2
            clear g2
            go_wp2_with (first
              | (go_at_call 239; refine (allWithin_any _ _ _ os _ _ _ hZ (by omega)).mono ?_; rw [G1.out]; rintro e w' ⟨rfl, rfl⟩)
              | (go_at_call 104; (with_reducible refine (within_is G2.out _).mono ?_); rintro e w' ⟨rfl, rfl⟩))
            go_ret
            exact ⟨ret_bool (by unfold fmB; simp [HLM.out, G2.out]), y0⟩
          have G2 := Lib.hid g2
          have hh := (inB_iff _ _ _).1 g2
          clear g2
          obtain ⟨hN, rfl⟩ : ∃ hN : Nat, h = (hN : Int) := ⟨h.toNat, by omega⟩
          obtain ⟨t, bb, off, hT, htm, rfl, _, hc, hr⟩ := hX.pick (k := hN) (by omega)
          have hnt := HNS.out t htm
          have i3 : (0 : Int) ≤ (hN : Int) := by omega
          have i4 : (hN : Int) < ((l + 1 : Nat) : Int) := by omega
          have HF : Hid (fmB sy st ⟨q, (hN : Int), a, nums ts, nums us, os⟩ = (inB a 0 ((t.xs.length : Int) - 1) || (decide (a = (t.xs.length : Int)) && decide ((hN : Int) < (l : Int))) || (decide (a = -1) && decide (0 < (hN : Int))))) := Lib.hid (by
            unfold fmB
            rw [HSH.out, HWA.out, HRA.out, G1.out]
            show (_ && inB (hN : Int) 0 ((nums us).length : Int) && atB _) = _
            rw [HLM.out, G2.out]
            unfold atB
            show (_ && _ && (inB a 0 (((rowAt (nums ts) (hN : Int)).length : Int) - 1) || (decide (a = ((rowAt (nums ts) (hN : Int)).length : Int)) && decide ((hN : Int) < ((nums us).length : Int))) || _)) = _
            rw [rowAt_eq hT.out, HLM.out]; rfl)
          clear hT hh i2
          cases g3 : inB a 0 ((t.xs.length : Int) - 1)
          rotate_left
          · have G3 := Lib.hid g3
            clear g3
            go_wp2_with (first
              | (go_at_call 239; refine (allWithin_any _ _ _ os _ _ _ hZ (by omega)).mono ?_; rw [G1.out]; rintro e w' ⟨rfl, rfl⟩)
              | (go_at_call 258; refine (sizeI_any _ _ _ _ (by omega)).mono ?_; rintro e w' ⟨rfl, rfl⟩)
              | (go_at_call 104; (with_reducible refine (within_is G2.out _).mono ?_); rintro e w' ⟨rfl, rfl⟩)
              | (go_at_call 104; (with_reducible refine (within_is G3.out _).mono ?_); rintro e w' ⟨rfl, rfl⟩))
            go_ret
            exact ⟨ret_bool (by rw [HF.out, G3.out]; rfl), y0⟩
          have G3 := Lib.hid g3
          clear g3
          by_cases g4 : a = (t.xs.length : Int)
          · have G4 := Lib.hid g4
            subst g4
            by_cases g5 : (hN : Int) < (l : Int)
            · have G5 := Lib.hid g5
              go_wp2_with (first
                | (go_at_call 239; refine (allWithin_any _ _ _ os _ _ _ hZ (by omega)).mono ?_; rw [G1.out]; rintro e w' ⟨rfl, rfl⟩)
                | (go_at_call 258; refine (sizeI_any _ _ _ _ (by omega)).mono ?_; rintro e w' ⟨rfl, rfl⟩)
                | (go_at_call 104; (with_reducible refine (within_is G2.out _).mono ?_); rintro e w' ⟨rfl, rfl⟩)
                | (go_at_call 104; (with_reducible refine (within_is G3.out _).mono ?_); rintro e w' ⟨rfl, rfl⟩))
              go_ret
              exact ⟨ret_bool (by have g5 := G5.out; rw [HF.out, G3.out]; simp <;> omega), y0⟩
            · have G5 := Lib.hid g5
              have i6 : ¬ ((t.xs.length : Int) = -1) := by omega
              have I6 := Lib.hid i6
              go_wp2_with (first
                | (go_at_call 239; refine (allWithin_any _ _ _ os _ _ _ hZ (by omega)).mono ?_; rw [G1.out]; rintro e w' ⟨rfl, rfl⟩)
                | (go_at_call 258; refine (sizeI_any _ _ _ _ (by omega)).mono ?_; rintro e w' ⟨rfl, rfl⟩)
                | (go_at_call 104; (with_reducible refine (within_is G2.out _).mono ?_); rintro e w' ⟨rfl, rfl⟩)
                | (go_at_call 104; (with_reducible refine (within_is G3.out _).mono ?_); rintro e w' ⟨rfl, rfl⟩))
              go_ret
              exact ⟨ret_bool (by have g5 := G5.out; have i6 := I6.out; rw [HF.out, G3.out]; simp <;> omega), y0⟩
          · have G4 := Lib.hid g4
            by_cases g6 : a = -1
            · subst g6
              by_cases g7 : 0 < (hN : Int)
              · have G7 := Lib.hid g7
                go_wp2_with (first
                  | (go_at_call 239; refine (allWithin_any _ _ _ os _ _ _ hZ (by omega)).mono ?_; rw [G1.out]; rintro e w' ⟨rfl, rfl⟩)
                  | (go_at_call 258; refine (sizeI_any _ _ _ _ (by omega)).mono ?_; rintro e w' ⟨rfl, rfl⟩)
                  | (go_at_call 104; (with_reducible refine (within_is G2.out _).mono ?_); rintro e w' ⟨rfl, rfl⟩)
                  | (go_at_call 104; (with_reducible refine (within_is G3.out _).mono ?_); rintro e w' ⟨rfl, rfl⟩))
                go_ret
                exact ⟨ret_bool (by have g4 := G4.out; have g7 := G7.out; rw [HF.out, G3.out]; simp <;> omega), y0⟩
              · have G7 := Lib.hid g7
                go_wp2_with (first
                  | (go_at_call 239; refine (allWithin_any _ _ _ os _ _ _ hZ (by omega)).mono ?_; rw [G1.out]; rintro e w' ⟨rfl, rfl⟩)
                  | (go_at_call 258; refine (sizeI_any _ _ _ _ (by omega)).mono ?_; rintro e w' ⟨rfl, rfl⟩)
                  | (go_at_call 104; (with_reducible refine (within_is G2.out _).mono ?_); rintro e w' ⟨rfl, rfl⟩)
                  | (go_at_call 104; (with_reducible refine (within_is G3.out _).mono ?_); rintro e w' ⟨rfl, rfl⟩))
                go_ret
                exact ⟨ret_bool (by have g4 := G4.out; have g7 := G7.out; rw [HF.out, G3.out]; simp <;> omega), y0⟩
            · have G6 := Lib.hid g6
              go_wp2_with (first
                | (go_at_call 239; refine (allWithin_any _ _ _ os _ _ _ hZ (by omega)).mono ?_; rw [G1.out]; rintro e w' ⟨rfl, rfl⟩)
                | (go_at_call 258; refine (sizeI_any _ _ _ _ (by omega)).mono ?_; rintro e w' ⟨rfl, rfl⟩)
                | (go_at_call 104; (with_reducible refine (within_is G2.out _).mono ?_); rintro e w' ⟨rfl, rfl⟩)
                | (go_at_call 104; (with_reducible refine (within_is G3.out _).mono ?_); rintro e w' ⟨rfl, rfl⟩))
              go_ret
              exact ⟨ret_bool (by have g4 := G4.out; have g6 := G6.out; rw [HF.out, G3.out]; simp <;> omega), y0⟩
theorem formulaOf_is {sy st : Int} {A0 : Option Addr} {n0 k0 : Nat} {q h a : Int} {A : Option Addr} {n c : Nat} {ts : List Sl} {B : Option Addr} {m d : Nat} {us : List Sl} {C : Option Addr} {l e : Nat} {os : List Int} {v : Bool} (hv : fmB sy st ⟨q, h, a, nums ts, nums us, os⟩ = v) (w : World) (hx : SII w A n ts) (hy : SII w B m us) (hz : SI w C l os)
    (hn : n ≤ 1048576) (hm : m ≤ 1048576) (hl : l ≤ 1048576) (hns : ∀ t ∈ ts, t.xs.length ≤ 1048576) (hms : ∀ t ∈ us, t.xs.length ≤ 1048576) (s1 : 2 ≤ sy) (s2 : sy ≤ 6) (s3 : 1 ≤ st) (s4 : st ≤ 1000) :
    Calls Try.prog 184 #[.agg #[.int .i64 sy, .int .i64 st, .slice A0 n0 k0], .agg #[.int .i64 q, .int .i64 h, .int .i64 a, .slice A n c, .slice B m d, .slice C l e]] w fun en w' => en = .returned (.bool v) ∧ Below w.heap.size w w' :=
  hv ▸ formulaOf_any sy st A0 n0 k0 q h a A n c ts B m d us C l e os w hx hy hz hn hm hl hns hms s1 s2 s3 s4
end Go.Proofs.Ytbpofkggoolmpaa
