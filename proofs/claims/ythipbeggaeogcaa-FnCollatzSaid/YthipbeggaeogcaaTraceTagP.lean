/-
  What TraceTag returns; slices of rows that grow.
-/
import Derived.Test.YthipbeggaeogcaaKeepT
import Derived.Test.YthipbeggaeogcaaHelpBC
namespace Go.Proofs.Ythipbeggaeogcaa
open Go.RowKit

theorem OII.snoc {wa w w2 : World} {lo n c c2 k : Nat} {e2 e1 : TypeId} {A A2 : Option Addr} {ts : List Sl} {u : Sl} (h : OII wa lo e2 e1 A n c ts) (hw : OII w lo e2 e1 A n c ts) (hs : Own w2 lo e2 1 A2 (n + 1) c2 (ts.map Sl.val ++ [u.val])) (hg : w.grownBy w2 (blk A))
    (hu : Own w k e1 1 u.A u.xs.length u.c (ints u.xs)) (hk : wa.heap.size ≤ k) (hlk : lo ≤ k) (hne : e1 ≠ e2) : OII w2 lo e2 e1 A2 (n + 1) c2 (ts ++ [u]) := by
  have far : ∀ {B : Option Addr} {m d lo' : Nat} {xs : List Value}, Own w lo' e1 1 B m d xs → Own w2 lo' e1 1 B m d xs := fun ho => ho.grown hg (fun g hgA hb => Own.blk_ne hw.1 ho (fun he => hne he.symm) g hgA hb)
  refine ⟨by simpa using hs, fun t ht => ?_, Apt.snoc h.2.2 (fun t ht b hb hb' => ?_)⟩
  · rcases List.mem_append.1 ht with h1 | h1
    · exact far (hw.2.1 t h1)
    · rw [List.mem_singleton.1 h1]; exact (far hu).mono hlk
  · have h1 := (h.2.1 t ht).blk_lt b hb
    have h2 := hu.blk_ge b hb'
    omega
theorem OII.len {w : World} {lo n c : Nat} {e2 e1 : TypeId} {A : Option Addr} {ts : List Sl} (h : OII w lo e2 e1 A n c ts) : ts.length = n := by have := h.1.1; simp at this; omega
/-- The blocks of a slice of rows. -/
def OIIB (A : Option Addr) (ts : List Sl) (b : Nat) : Prop := blk A = some b ∨ ∃ t ∈ ts, blk t.A = some b
theorem OII.keptB {w w' : World} {lo n c : Nat} {e2 e1 : TypeId} {A : Option Addr} {ts : List Sl} (h : OII w lo e2 e1 A n c ts) (hk : ∀ b, OIIB A ts b → w'.heap[b]? = w.heap[b]?) : OII w' lo e2 e1 A n c ts :=
  ⟨h.1.kept (fun b hb _ _ => hk b (.inl hb)), fun t ht => (h.2.1 t ht).kept (fun b hb _ _ => hk b (.inr ⟨t, ht, hb⟩)), h.2.2⟩
theorem OII.blkB {w : World} {lo n c : Nat} {e2 e1 : TypeId} {A : Option Addr} {ts : List Sl} (h : OII w lo e2 e1 A n c ts) : ∀ b, OIIB A ts b → lo ≤ b ∧ b < w.heap.size := by
  rintro b (hb | ⟨t, ht, hb⟩)
  · exact ⟨h.1.blk_ge b hb, h.1.blk_lt b hb⟩
  · exact ⟨(h.2.1 t ht).blk_ge b hb, (h.2.1 t ht).blk_lt b hb⟩
theorem Blk.aptt {w : World} {g : Nat} {t e : TypeId} {cur : Array Value} {lo n c s : Nat} {A : Option Addr} {cs : List Value} (h : Blk w g t cur) (h' : Own w lo e s A n c cs) (hne : t ≠ e) : blk A ≠ some g := by
  intro hb
  rcases h'.2 with ⟨rfl, _⟩ | ⟨b, off, cur2, rfl, _, hg, _⟩
  · simp [blk] at hb
  · simp [blk] at hb; subst hb
    unfold Blk at h
    rw [hg] at h
    simp at h
    exact hne h.2.symm
theorem Blk.growt {w w2 : World} {g : Nat} {t e : TypeId} {cur : Array Value} {lo n c s : Nat} {A : Option Addr} {cs : List Value} (h : Blk w g t cur) (h' : Own w lo e s A n c cs) (hg : w.grownBy w2 (blk A)) (hne : t ≠ e) : Blk w2 g t cur :=
  (hg.block g h.lt (fun e => h.aptt h' hne e.symm)).trans h
theorem OII.set_box {w : World} {lo n c g i : Nat} {t e2 e1 : TypeId} {cur : Array Value} {A : Option Addr} {ts : List Sl} (h : OII w lo e2 e1 A n c ts) (hb : Blk w g t cur) (h1 : t ≠ e2) (h2 : t ≠ e1) (u : Value) : OII (w.setCell ⟨g, i, none⟩ u) lo e2 e1 A n c ts :=
  ⟨h.1.far (p := ⟨g, i, none⟩) (hb.aptt h.1 h1) u, fun x hx => (h.2.1 x hx).far (p := ⟨g, i, none⟩) (hb.aptt (h.2.1 x hx) h2) u, h.2.2⟩
theorem OII.nil {w : World} {lo c : Nat} {e2 e1 : TypeId} {A : Option Addr} (h : Own w lo e2 1 A 0 c []) : OII w lo e2 e1 A 0 c [] := ⟨h, by simp, List.Pairwise.nil⟩
theorem OII.one {w : World} {lo c : Nat} {e2 e1 : TypeId} {A : Option Addr} {u : Sl} (h : Own w lo e2 1 A 1 c [u.val]) (hu : Own w lo e1 1 u.A u.xs.length u.c (ints u.xs)) : OII w lo e2 e1 A 1 c [u] := ⟨by simpa using h, by simpa using hu, List.pairwise_singleton _ _⟩

/-- The first i words of a run. -/
def wordsTo (s : Sys (List Int)) (xs : List Int) (i : Nat) : List (List Int) := (List.range i).map (s.it xs)
theorem wordsTo_next (s : Sys (List Int)) (xs : List Int) (i : Nat) : wordsTo s xs (i + 1) = wordsTo s xs i ++ [s.it xs i] := by unfold wordsTo; rw [List.range_succ]; simp
theorem wordsTo_len (s : Sys (List Int)) (xs : List Int) (i : Nat) : (wordsTo s xs i).length = i := by simp [wordsTo]
def traceTagF (d : Int) (words : List (List Int)) (hs xs : List Int) (b : Int) : List (List Int) × Int :=
  if tagCodeF d words hs xs = 0 then
    if inB b 0 60 then
      match (tagSys d words hs).run b.toNat xs with
      | some i => (wordsTo (tagSys d words hs) xs (i + 1), 0)
      | none => ([], 5)
    else ([], 2)
  else ([], 1)
theorem traceTagF_bad {d : Int} {words : List (List Int)} {hs xs : List Int} {b : Int} (h : tagCodeF d words hs xs = 1) : traceTagF d words hs xs b = ([], 1) := by unfold traceTagF; rw [h]; simp
theorem traceTagF_range {d : Int} {words : List (List Int)} {hs xs : List Int} {b : Int} (h : tagCodeF d words hs xs = 0) (h1 : inB b 0 60 = false) : traceTagF d words hs xs b = ([], 2) := by unfold traceTagF; rw [h, h1]; simp
theorem traceTagF_ended {d : Int} {words : List (List Int)} {hs xs : List Int} {N i : Nat} (h : tagCodeF d words hs xs = 0) (h1 : inB (N : Int) 0 60 = true) (h2 : (tagSys d words hs).Ended xs N i) :
    traceTagF d words hs xs (N : Int) = (wordsTo (tagSys d words hs) xs (i + 1), 0) := by
  unfold traceTagF; rw [h, h1, Int.toNat_natCast, Sys.run_ended h2]; simp
theorem traceTagF_full {d : Int} {words : List (List Int)} {hs xs : List Int} {N i : Nat} (h : tagCodeF d words hs xs = 0) (h1 : inB (N : Int) 0 60 = true) (h2 : (tagSys d words hs).Full xs N i) :
    traceTagF d words hs xs (N : Int) = ([], 5) := by
  unfold traceTagF; rw [h, h1, Int.toNat_natCast, Sys.run_full h2]; simp
theorem Sys.run_le {σ : Type} {s : Sys σ} : ∀ {N : Nat} {c : σ} {i : Nat}, s.run N c = some i → i ≤ N := by
  intro N
  induction N with
  | zero => intro c i h; unfold Sys.run at h; cases h; omega
  | succ N ih =>
    intro c i h
    unfold Sys.run at h
    split at h
    · cases h; omega
    · split at h
      · cases h3 : s.run N (s.next c) with
        | none => rw [h3] at h; cases h
        | some j =>
          rw [h3] at h
          have h4 := ih h3
          obtain rfl : j + 1 = i := by simpa using h
          omega
      · cases h
theorem sum_le {M : List (List Int)} {b : Nat} (h : ∀ x ∈ M, x.length ≤ b) : (M.map List.length).sum ≤ M.length * b := by
  induction M with
  | nil => simp
  | cons x r ih =>
    have h1 := h x (by simp)
    have h2 := ih (fun y hy => h y (by simp [hy]))
    simp only [List.map_cons, List.sum_cons, List.length_cons, Nat.succ_mul]
    omega
theorem traceTagF_len (d : Int) (words : List (List Int)) (hs xs : List Int) (b : Int) : (traceTagF d words hs xs b).1.length ≤ 1048576 ∧ ((traceTagF d words hs xs b).1.map List.length).sum ≤ 1048576 := by
  unfold traceTagF
  split
  · rename_i h
    split
    · rename_i h1
      have hb := (inB_iff _ _ _).1 h1
      split
      · rename_i i hi
        have h2 := Sys.run_le hi
        have h3 := Sys.run_alive hi
        have h4 : (wordsTo (tagSys d words hs) xs (i + 1)).length = i + 1 := wordsTo_len _ _ _
        have h5 := sum_le (M := wordsTo (tagSys d words hs) xs (i + 1)) (b := 1000) (fun x hx => by
          simp only [wordsTo, List.mem_map, List.mem_range] at hx
          obtain ⟨j, hj, rfl⟩ := hx
          exact (tagCode_parts (tagAlive_good h (fun k hk => h3 k (by omega)))).2.2.2.1)
        rw [h4] at h5
        exact ⟨by show (wordsTo (tagSys d words hs) xs (i + 1)).length ≤ _; omega, by show ((wordsTo (tagSys d words hs) xs (i + 1)).map List.length).sum ≤ _; omega⟩
      · simp
    · simp
  · simp
/-- A new slice of rows, and a code. -/
def NewII (w : World) (r : List (List Int) × Int) (e : Ending) (w' : World) : Prop :=
  ∃ A c us, e = .returned (.tuple #[.slice A r.1.length c, .int .i64 r.2]) ∧ OII w' w.heap.size 25 2 A r.1.length c us ∧ nums us = r.1 ∧ Below w.heap.size w w'
theorem newII_nil {w wf : World} {k : Int} {r : List (List Int) × Int} (hr : r = ([], k)) (hz : Below w.heap.size w wf) : NewII w r (.returned (.tuple #[.slice none 0 0, .int .i64 k])) wf := by
  subst hr; exact ⟨none, 0, [], rfl, OII.nil Own.nil, rfl, hz⟩
theorem newII_of {w wf : World} {k : Int} {r : List (List Int) × Int} {A : Option Addr} {n c : Nat} {us : List Sl} {M : List (List Int)} (hr : r = (M, k)) (hM : nums us = M) (ho : OII wf w.heap.size 25 2 A n c us) (hz : Below w.heap.size w wf) : NewII w r (.returned (.tuple #[.slice A n c, .int .i64 k])) wf := by
  subst hr; subst hM
  have hn : (nums us).length = n := by have := ho.len; simpa [nums] using this
  subst hn
  exact ⟨A, c, us, rfl, ho, rfl, hz⟩
end Go.Proofs.Ythipbeggaeogcaa
