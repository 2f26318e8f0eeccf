/-
  Runs of a machine, in plain words: the i-th configuration, runs that are alive, their ends.
-/
import Derived.Test.YtbpofkggoolmpaaPkMeasures1
import Derived.Test.YtbpofkggoolmpaaPkMeasures2
import Derived.Test.YtbpofkggoolmpaaPkMeasures3
import Derived.RangeFuncNested
import Derived.RangeFuncBound
import Derived.RangeFuncCalls
import Derived.RangeFuncLeaves
import Derived.Shelf.Abstract
import Derived.Shelf.RegionOpen
import Derived.OwnWalkIn
import Derived.TacticsInMore
import Derived.LoopNIn
import Derived.LoopIn
namespace Go.Proofs.Ytbpofkggoolmpaa
open Go.RowKit

def haltC (sy : Int) (rs : List R3) (c : Conf) : Bool := !isRuleB (ruleOf sy rs c.q c.ys)
def nextC (sy : Int) (rs : List R3) (c : Conf) : Conf := stepC (ruleOf sy rs c.q c.ys) c.xs c.ys
def itC (sy : Int) (rs : List R3) (c : Conf) : Nat → Conf
  | 0 => c
  | i + 1 => nextC sy rs (itC sy rs c i)
def goodC (sy st : Int) (rs : List R3) (c : Conf) : Prop := validConfB sy st rs c.q c.xs c.ys = true

theorem side_push {sy : Int} {xs : List Int} {x : Int} (hx : ∀ y ∈ xs, 0 ≤ y ∧ y ≤ sy - 1) (h : 0 ≤ x ∧ x ≤ sy - 1) : ∀ y ∈ pushI xs x, 0 ≤ y ∧ y ≤ sy - 1 := by
  unfold pushI
  split
  · exact hx
  · intro y hy
    rcases List.mem_append.1 hy with h1 | h1
    · exact hx y h1
    · rw [List.mem_singleton.1 h1]; exact h
theorem side_of {sy : Int} {xs : List Int} (hl : xs.length ≤ 200) (hx : ∀ y ∈ xs, 0 ≤ y ∧ y ≤ sy - 1) (hg : xs = [] ∨ lastI xs ≠ 0) : sideB xs sy 200 = true := by
  unfold sideB allIn
  simp only [Bool.and_eq_true, decide_eq_true_eq, List.all_eq_true, inB_iff, Bool.or_eq_true, bne_iff_ne, ne_eq]
  exact ⟨⟨by omega, hx⟩, hg⟩
theorem goodC_next {sy st : Int} {rs : List R3} {c : Conf} (h : goodC sy st rs c) (hh : haltC sy rs c = false) (hr : roomC (nextC sy rs c) = true) : goodC sy st rs (nextC sy rs c) := by
  obtain ⟨h1, h2, h3, h4, hn, h5, h6, hx2, hy2, hxm, hym, hrs⟩ := conf_parts h
  obtain ⟨gx, gy⟩ := conf_good h
  have hv : machB sy st rs = true := by unfold goodC validConfB at h; simp only [Bool.and_eq_true] at h; exact h.1
  obtain ⟨_, _, _, _, idx, hidx, hlt⟩ := at_parts (ys := c.ys.reverse) h1 h2 h3 h4 hn h5 h6 (fun y hy => hym y (List.mem_reverse.1 hy))
  have hget := ruleOf_get (rs := rs) (ys := c.ys) hidx hlt
  have hval := hrs _ (List.mem_of_getElem? hget)
  have hru : isRuleB (ruleOf sy rs c.q c.ys) = true := by unfold haltC at hh; simpa using hh
  unfold nextC at hr ⊢
  revert hr hval hru
  generalize ruleOf sy rs c.q c.ys = r
  intro hr hval hru
  unfold validRuleB at hval
  rw [hru] at hval
  simp only [Bool.not_true, Bool.false_or, Bool.and_eq_true, inB_iff] at hval
  obtain ⟨⟨ha, hb⟩, hc⟩ := hval
  unfold roomC roomB at hr
  simp only [Bool.and_eq_true, decide_eq_true_eq] at hr
  have hl0 : 0 ≤ lastI c.xs.reverse ∧ lastI c.xs.reverse ≤ sy - 1 := by
    rcases lastI_mem (xs := c.xs.reverse) with h0 | h0
    · rw [h0]; omega
    · exact hxm _ (List.mem_reverse.1 h0)
  have hxr : ∀ y ∈ c.xs.reverse, 0 ≤ y ∧ y ≤ sy - 1 := fun y hy => hxm y (List.mem_reverse.1 hy)
  have hyr : ∀ y ∈ c.ys.reverse, 0 ≤ y ∧ y ≤ sy - 1 := fun y hy => hym y (List.mem_reverse.1 hy)
  have hyd : ∀ y ∈ c.ys.reverse.dropLast, 0 ≤ y ∧ y ≤ sy - 1 := fun y hy => hyr y (List.dropLast_subset _ hy)
  have hxd : ∀ y ∈ c.xs.reverse.dropLast, 0 ≤ y ∧ y ≤ sy - 1 := fun y hy => hxr y (List.dropLast_subset _ hy)
  have hL : ∀ y ∈ (stepL r c.xs.reverse).reverse, 0 ≤ y ∧ y ≤ sy - 1 := by
    intro y hy
    rw [List.mem_reverse] at hy
    unfold stepL at hy
    split at hy
    · exact side_push hxr ha y hy
    · exact hxd y hy
  have hR : ∀ y ∈ (stepR r c.xs.reverse c.ys.reverse).reverse, 0 ≤ y ∧ y ≤ sy - 1 := by
    intro y hy
    rw [List.mem_reverse] at hy
    unfold stepR at hy
    split at hy
    · exact hyd y hy
    · exact side_push (side_push hyd ha) hl0 y hy
  have hgL : (stepL r c.xs.reverse).reverse = [] ∨ lastI (stepL r c.xs.reverse).reverse ≠ 0 := by
    unfold stepL
    split
    · exact good_push gx _
    · rw [rev_dropLast]; exact good_tail gx
  have hgR : (stepR r c.xs.reverse c.ys.reverse).reverse = [] ∨ lastI (stepR r c.xs.reverse c.ys.reverse).reverse ≠ 0 := by
    unfold stepR
    split
    · rw [rev_dropLast]; exact good_tail gy
    · have g1 := good_tail gy
      have e1 : c.ys.reverse.dropLast = c.ys.tail.reverse := by rw [← rev_dropLast, List.reverse_reverse]
      rw [e1]
      have g2 := good_push g1 r.a
      have e2 : pushI c.ys.tail.reverse r.a = (pushI c.ys.tail.reverse r.a).reverse.reverse := by rw [List.reverse_reverse]
      rw [e2]
      exact good_push g2 _
  unfold goodC validConfB confB
  simp only [Bool.and_eq_true, inB_iff]
  exact ⟨hv, ⟨⟨hc.1, hc.2⟩, side_of hr.1 hL hgL⟩, side_of hr.2 hR hgR⟩

/-- The run makes i steps. -/
def Alive (sy : Int) (rs : List R3) (c : Conf) (i : Nat) : Prop := ∀ j, j < i → haltC sy rs (itC sy rs c j) = false ∧ roomC (itC sy rs c (j + 1)) = true
theorem Alive.zero (sy : Int) (rs : List R3) (c : Conf) : Alive sy rs c 0 := fun j h => absurd h (Nat.not_lt_zero j)
theorem Alive.next {sy : Int} {rs : List R3} {c : Conf} {i : Nat} (h : Alive sy rs c i) (h1 : haltC sy rs (itC sy rs c i) = false) (h2 : roomC (itC sy rs c (i + 1)) = true) : Alive sy rs c (i + 1) := fun j hj => by
  by_cases e : j = i
  · subst e; exact ⟨h1, h2⟩
  · exact h j (by omega)
theorem Alive.good {sy st : Int} {rs : List R3} {c : Conf} {i : Nat} (h : Alive sy rs c i) (hc : goodC sy st rs c) : goodC sy st rs (itC sy rs c i) := by
  induction i with
  | zero => exact hc
  | succ i ih => exact goodC_next (ih (fun j hj => h j (by omega))) (h i (by omega)).1 (h i (by omega)).2
/-- The run ends behind i of at most N steps. -/
def Ended (sy : Int) (rs : List R3) (c : Conf) (N i : Nat) : Prop := i ≤ N ∧ Alive sy rs c i ∧ (i = N ∨ haltC sy rs (itC sy rs c i) = true)
/-- The run has no room for the step behind i steps. -/
def Full (sy : Int) (rs : List R3) (c : Conf) (N i : Nat) : Prop := i < N ∧ Alive sy rs c i ∧ haltC sy rs (itC sy rs c i) = false ∧ roomC (itC sy rs c (i + 1)) = false

/-- What a run comes to: the number of steps, or none without room. -/
def runN (sy : Int) (rs : List R3) : Nat → Conf → Option Nat
  | 0, _ => some 0
  | N + 1, c => if haltC sy rs c then some 0 else if roomC (nextC sy rs c) then (runN sy rs N (nextC sy rs c)).map (· + 1) else none
theorem itC_shift (sy : Int) (rs : List R3) (c : Conf) (i : Nat) : itC sy rs (nextC sy rs c) i = itC sy rs c (i + 1) := by
  induction i with
  | zero => rfl
  | succ i ih => show nextC sy rs (itC sy rs (nextC sy rs c) i) = nextC sy rs (itC sy rs c (i + 1)); rw [ih]
theorem Alive.shift {sy : Int} {rs : List R3} {c : Conf} {i : Nat} (h : Alive sy rs c (i + 1)) : Alive sy rs (nextC sy rs c) i := fun j hj => by
  rw [itC_shift, itC_shift]; exact h (j + 1) (by omega)
theorem runN_ended {sy : Int} {rs : List R3} : ∀ {N : Nat} {c : Conf} {i : Nat}, Ended sy rs c N i → runN sy rs N c = some i := by
  intro N
  induction N with
  | zero => rintro c i ⟨h1, _, _⟩; obtain rfl : i = 0 := by omega
            rfl
  | succ N ih =>
    rintro c i ⟨h1, h2, h3⟩
    cases i with
    | zero =>
      rcases h3 with h3 | h3
      · omega
      · unfold runN; rw [if_pos (show haltC sy rs c = true from h3)]
    | succ i =>
      have h0 := h2 0 (by omega)
      unfold runN
      rw [if_neg (by rw [show haltC sy rs c = false from h0.1]; simp), if_pos (show roomC (nextC sy rs c) = true from h0.2), ih (i := i) ⟨by omega, h2.shift, ?_⟩]
      · rfl
      · rcases h3 with h3 | h3
        · left; omega
        · right; rw [itC_shift]; exact h3
theorem runN_full {sy : Int} {rs : List R3} : ∀ {N : Nat} {c : Conf} {i : Nat}, Full sy rs c N i → runN sy rs N c = none := by
  intro N
  induction N with
  | zero => rintro c i ⟨h1, _⟩; omega
  | succ N ih =>
    rintro c i ⟨h1, h2, h3, h4⟩
    cases i with
    | zero =>
      unfold runN
      rw [if_neg (by rw [show haltC sy rs c = false from h3]; simp), if_neg (by rw [show roomC (nextC sy rs c) = false from h4]; simp)]
    | succ i =>
      have h0 := h2 0 (by omega)
      unfold runN
      rw [if_neg (by rw [show haltC sy rs c = false from h0.1]; simp), if_pos (show roomC (nextC sy rs c) = true from h0.2), ih (i := i) ⟨by omega, h2.shift, by rw [itC_shift]; exact h3, by rw [itC_shift]; exact h4⟩]
      rfl
end Go.Proofs.Ytbpofkggoolmpaa

/-
  A range over a function whose iterator keeps state of its own in cells: the caller's law. No program is in sight.
-/
namespace Go.Proofs.Ytbpofkggoolmpaa
open Go.RowKit

variable {F : Fence} {n : Nat} {P : Program}

/-- The loop's own records: the loop and the deferred calls. -/
def isBook : Obj → Bool
  | .loop .. => true
  | .deferred .. => true
  | _ => false
theorem book_cells {o : Obj} (h : isBook o = true) : o.isCells = false := by cases o <;> first | rfl | cases h
theorem cells_book {o : Obj} (h : o.isCells = true) : isBook o = false := by cases o <;> first | rfl | cases h
/-- The loop's records lie as they lay. -/
structure KeepsBook (W W' : World) : Prop where
  size : W.heap.size ≤ W'.heap.size
  same : ∀ (k : Nat) (o : Obj), W.heap[k]? = some o → isBook o = true → W'.heap[k]? = some o
theorem KeepsBook.of {W W' : World} (h : KeepsOthers W W') : KeepsBook W W' := ⟨h.size, fun k o hk ho => h.same k o hk (book_cells ho)⟩
theorem KeepsBook.refl (W : World) : KeepsBook W W := KeepsBook.of (KeepsOthers.refl W)
theorem KeepsBook.trans {A B C : World} (h : KeepsBook A B) (k : KeepsBook B C) : KeepsBook A C := ⟨Nat.le_trans h.size k.size, fun i o hi ho => k.same i o (h.same i o hi ho) ho⟩
theorem KeepsBook.alloc (W : World) (o : Obj) : KeepsBook W (W.alloc o) := KeepsBook.of (KeepsOthers.alloc W o)
theorem KeepsBook.setCell (W : World) (a : Addr) (v : Value) : KeepsBook W (W.setCell a v) := KeepsBook.of (KeepsOthers.setCell W a v)

/-- The contract of an iterator. J x: where yield is called with x. J' x: behind a round that goes on. Jx c x: behind a round that left by c. B, Bx: the loop's own book-keeping. -/
def SeqC {α : Type} (F : Fence) (n : Nat) (P : Program) (g : Nat) (lb : Array Value) (encs : α → Array Value) (J J' : α → World → Prop) (Jx : Code → α → World → Prop) (Start Fin : World → Prop) (FinX : Code → World → Prop) : Prop :=
  ∀ (l : Nat) (B : World → Prop) (Bx : Code → World → Prop), (∀ W W', B W → KeepsBook W W' → B W') → (∀ c W W', Bx c W → KeepsBook W W' → Bx c W') →
    (∀ x W, J x W → B W → YieldAt F (n - 1) P l (encs x) W fun e W' => (e = .returned (.bool true) ∧ J' x W' ∧ B W') ∨ (e = .returned (.bool false) ∧ ∃ c, Jx c x W' ∧ Bx c W')) →
    ∀ W, Start W → B W → CallsIn F n P g (#[.func (.yield l) #[] #[]] ++ lb) W fun e W' => (∃ v, e = .returned v) ∧ ((Fin W' ∧ B W') ∨ (∃ c, FinX c W' ∧ Bx c W'))

def stPost {α : Type} (J' : α → World → Prop) (Jx : Code → α → World → Prop) (x : α) (W : World) : Exit → Act → World → Prop
  | .normal, _, W' => KeepsBook W W' ∧ J' x W'
  | .ret, _, W' => KeepsBook W W' ∧ Jx .ret x W'
  | .exit id, _, W' => KeepsBook W W' ∧ Jx (.exit id) x W'
  | .goto t, _, W' => KeepsBook W W' ∧ Jx (.goto t) x W'
  | .panic _, _, _ => False
  | .outgrown, _, _ => False

/-- A word that abides a turn of a block that holds no cells. -/
def PutOk (b0 : Nat) (I : World → Prop) : Prop := ∀ (W : World) (l : Nat) (o o' : Obj), I W → b0 ≤ l → W.heap[l]? = some o → isBook o = true → I (W.putObj l o')

theorem keeps_loop {W W' : World} {l : Nat} {o : Obj} (h : KeepsBook W W') (hl : W.heap[l]? = some o) (ho : isBook o = true) : W'.heap[l]? = some o := h.same l o hl ho

theorem wpIn_rangeFunc_st {α : Type} {g : Operand} {ps : Array Tmp} {assign body : Code} {Q : Exit → Act → World → Prop} {a : Act} {w : World}
    (hro : F.round = none) (h1 : 1 ≤ n) {gf : Nat} {lb : Array Value} (hg : a.eval g = .func (.func gf) #[] lb) (hFg : F.fn gf) (eg : ∀ args w, (callFunc gf args).run P w = .ok (.enter gf args) w)
    {encs : α → Array Value} {J J' : α → World → Prop} {Jx : Code → α → World → Prop} {Start Fin : World → Prop} {FinX : Code → World → Prop} (hseq : SeqC F (n - 1) P gf lb encs J J' Jx Start Fin FinX)
    (hps : ∀ x, (encs x).size = ps.size) (hJ : ∀ x, PutOk w.heap.size (J x)) (hJ' : ∀ x, PutOk w.heap.size (J' x)) (hJx : ∀ c x, PutOk w.heap.size (Jx c x)) (hFin : PutOk w.heap.size Fin) (hFinX : ∀ c, PutOk w.heap.size (FinX c))
    (hstart : ∀ r, Start ((w.alloc (.deferred (some []))).alloc (.loop r))) (a₁ : α → Act)
    (hassign : ∀ (l : Nat) (x : α) (W : World) (K : Act → World → Prop), K (a₁ x) W →
      assign.wpIn (F.inRound l) (n - 1 - 1) P (Exit.then K (fun _ _ _ => False)) { tmps := (ps.zip (encs x)).foldl (fun t (p, v) => t.setIfInBounds p v) a.tmps, defers := [] } W)
    (hbody : ∀ (l : Nat) (x : α) (W : World), w.heap.size ≤ l → J x W → body.wpIn (F.inRound l) (n - 1 - 1) P (stPost J' Jx x W) (a₁ x) W)
    (hdone : ∀ (D : Nat) (W : World), w.heap.size ≤ D → Fin W → W.heap[D]? = some (.deferred (some [])) → Q .normal { a with defers := { target := .collected D, args := #[] } :: a.defers } W)
    (hstop : ∀ (D : Nat) (c : Code) (W : World), w.heap.size ≤ D → FinX c W → W.heap[D]? = some (.deferred (some [])) → c.wpIn F n P Q { a with defers := { target := .collected D, args := #[] } :: a.defers } W) :
    (Code.rangeFunc g ps assign body).wpIn F n P Q a w := by
  refine wpIn_rangeFunc ?_
  intro fn hfn
  rw [hro]
  obtain ⟨rec, hrec⟩ : ∃ rec : LoopState → Option Code → Loop, rec = fun st pe => { state := st, pending := pe, fn, tmps := a.tmps, params := ps, assign, body, defers := w.heap.size } := ⟨_, rfl⟩
  obtain ⟨W1, hW1⟩ : ∃ W1, (w.alloc (.deferred (some []))).alloc (.loop (rec .ready none)) = W1 := ⟨_, rfl⟩
  have hL1 : W1.heap[w.heap.size + 1]? = some (.loop (rec .ready none)) := by
    rw [← hW1]; have := World.alloc_heap_new (w.alloc (.deferred (some []))) (.loop (rec .ready none)); rwa [World.size_alloc] at this
  have hK1 : W1.heap[w.heap.size]? = some (.deferred (some [])) := by
    rw [← hW1]; exact (Below.heap_alloc _ _ _ (by simp)).trans (World.alloc_heap_new w _)
  have hS1 : Start W1 := by rw [← hW1]; exact hstart _
  refine ⟨w.heap.size + 1, [{ target := .collected w.heap.size, args := #[] }], W1, { target := .fn (.func gf) lb, args := #[.func (.yield (w.heap.size + 1)) #[] #[]] }, W1, gf,
    #[.func (.yield (w.heap.size + 1)) #[] #[]] ++ lb, W1, ?_, ?_, ?_, ?_, fun _ => h1, ?_⟩
  · rw [← hW1, hrec]; exact run_enterLoop_outer _ _ _ _ _
  · simp only [resolve, hg]
    simp [go_sem]
  · intro f' hf'; simp [Target.leads] at hf'; subst hf'; exact hFg
  · simp [invoke, go_sem, eg]
  · refine (hseq (w.heap.size + 1)
      (fun W => W.heap[w.heap.size + 1]? = some (.loop (rec .ready none)) ∧ W.heap[w.heap.size]? = some (.deferred (some [])))
      (fun c W => W.heap[w.heap.size + 1]? = some (.loop (rec .done (some c))) ∧ W.heap[w.heap.size]? = some (.deferred (some [])))
      (fun W W' h k => ⟨keeps_loop k h.1 rfl, keeps_loop k h.2 rfl⟩) (fun c W W' h k => ⟨keeps_loop k h.1 rfl, keeps_loop k h.2 rfl⟩) ?_ W1 hS1 ⟨hL1, hK1⟩).mono ?_
    · rintro x W hi ⟨hl, hk⟩
      have hlt : w.heap.size + 1 < W.heap.size := (Array.getElem?_eq_some_iff.1 hl).1
      have hy := run_yield (P := P) (args := encs x) hl (by rw [hrec]; exact hps x)
      rw [hrec] at hy
      refine ⟨fn, _, assign, body, hy, roundIn_of_wpIn hfn (hassign _ x W _ ⟨_, run_beginRound hl (by rw [hrec]), ?_⟩)⟩
      have hl2 : (W.putObj (w.heap.size + 1) (.loop { rec .ready none with state := .busy })).heap[w.heap.size + 1]? = some (.loop { rec .ready none with state := .busy }) := World.putObj_heap_same hlt
      have hk2 : (W.putObj (w.heap.size + 1) (.loop { rec .ready none with state := .busy })).heap[w.heap.size]? = some (.deferred (some [])) := (World.putObj_heap_other (by omega)).trans hk
      refine wpIn_mono (hbody _ x _ (by omega) (hJ x _ _ _ _ hi (by omega) hl rfl)) ?_
      have fin : ∀ (jump : Option Code) (W3 : World), KeepsBook (W.putObj (w.heap.size + 1) (.loop { rec .ready none with state := .busy })) W3 →
          (Instr.endRound (w.heap.size + 1) jump).run P W3 = .ok (.bool jump.isNone) (W3.putObj (w.heap.size + 1) (.loop (rec (if jump.isNone then .ready else .done) jump))) ∧
          W3.heap[w.heap.size + 1]? = some (.loop { rec .ready none with state := .busy }) ∧
          (W3.putObj (w.heap.size + 1) (.loop (rec (if jump.isNone then .ready else .done) jump))).heap[w.heap.size + 1]? = some (.loop (rec (if jump.isNone then .ready else .done) jump)) ∧
          (W3.putObj (w.heap.size + 1) (.loop (rec (if jump.isNone then .ready else .done) jump))).heap[w.heap.size]? = some (.deferred (some [])) := fun jump W3 hk3 => by
        have hl3 := hk3.same _ _ hl2 rfl
        have := run_endRound (P := P) jump hl3
        rw [hrec] at this ⊢
        exact ⟨this, by rw [hrec] at hl3; exact hl3, World.putObj_heap_same (Array.getElem?_eq_some_iff.1 hl3).1, (World.putObj_heap_other (by omega)).trans (hk3.same _ _ hk2 rfl)⟩
      rintro e a3 W3 hp
      cases e with
      | normal =>
        obtain ⟨hk3, hi3⟩ := hp
        obtain ⟨hr, hl3, hl4, hk4⟩ := fin none W3 hk3
        exact ⟨_, _, hr, .inl ⟨rfl, hJ' x _ _ _ _ hi3 (by omega) hl3 rfl, hl4, hk4⟩⟩
      | ret =>
        obtain ⟨hk3, hi3⟩ := hp
        obtain ⟨hr, hl3, hl4, hk4⟩ := fin (some .ret) W3 hk3
        exact ⟨_, _, hr, .inr ⟨rfl, .ret, hJx _ x _ _ _ _ hi3 (by omega) hl3 rfl, hl4, hk4⟩⟩
      | exit id =>
        obtain ⟨hk3, hi3⟩ := hp
        obtain ⟨hr, hl3, hl4, hk4⟩ := fin (some (.exit id)) W3 hk3
        exact ⟨_, _, hr, .inr ⟨rfl, .exit id, hJx _ x _ _ _ _ hi3 (by omega) hl3 rfl, hl4, hk4⟩⟩
      | goto t =>
        obtain ⟨hk3, hi3⟩ := hp
        obtain ⟨hr, hl3, hl4, hk4⟩ := fin (some (.goto t)) W3 hk3
        exact ⟨_, _, hr, .inr ⟨rfl, .goto t, hJx _ x _ _ _ _ hi3 (by omega) hl3 rfl, hl4, hk4⟩⟩
      | panic ch => exact hp.elim
      | outgrown => exact hp.elim
    · rintro e W2 ⟨⟨v, rfl⟩, (⟨hi, hl, hk⟩ | ⟨c, hi, hl, hk⟩)⟩
      · exact ⟨none, _, by have := run_endLoop (P := P) hl (by rw [hrec]; simp); rw [hrec] at this; exact this, hdone _ _ (Nat.le_refl _) (hFin _ _ _ _ hi (by omega) hl rfl) ((World.putObj_heap_other (by omega)).trans hk)⟩
      · exact ⟨some c, _, by have := run_endLoop (P := P) hl (by rw [hrec]; simp); rw [hrec] at this; exact this, hstop _ c _ (Nat.le_refl _) (hFinX c _ _ _ _ hi (by omega) hl rfl) ((World.putObj_heap_other (by omega)).trans hk)⟩
end Go.Proofs.Ytbpofkggoolmpaa

/-
  Contracts of impl's runner in the words of a configuration: halts, step.
-/
namespace Go.Proofs.Ytbpofkggoolmpaa
open Go.RowKit

/-- A runner that stands at a configuration, apart from the blocks of X. -/
def RunC (X : Nat → Prop) (w : World) (lo g : Nat) (sy st : Int) (A : Option Addr) (n k : Nat) (c : Conf) : Prop := SidesX X w lo g sy st A n k c.q c.xs.reverse c.ys.reverse

theorem halts_c {X : Nat → Prop} {w : World} {lo g : Nat} {sy st : Int} {A : Option Addr} {n k : Nat} {rs : List R3} {c : Conf} (hs : RunC X w lo g sy st A n k c) (hrs : S3 w A n rs) (hg : goodC sy st rs c) (hn : n ≤ 1048576) :
    Calls Try.prog 195 #[.pointer (some ⟨g, 0, none⟩)] w fun e w' => e = .returned (.bool (haltC sy rs c)) ∧ Below w.heap.size w w' := by
  obtain ⟨L, cl, R, d, hr, ol, or_, _⟩ := hs
  obtain ⟨h1, h2, h3, h4, hnl, h5, h6, hx2, hy2, hxm, hym, hrsv⟩ := conf_parts hg
  obtain ⟨a1, a2, a3, a4, idx, hidx, hlt⟩ := at_parts (ys := c.ys.reverse) h1 h2 h3 h4 hnl h5 h6 (fun y hy => hym y (List.mem_reverse.1 hy))
  have hget := ruleOf_get (rs := rs) (ys := c.ys) hidx hlt
  have hl : c.ys.reverse.length ≤ 1048576 := by rw [List.length_reverse]; omega
  have hln : rs.length = n := hrs.len
  exact halts_any g sy st A n k rs c.q L _ cl R _ d c.ys.reverse idx (ruleOf sy rs c.q c.ys) w hr hrs or_.rd hl a1 (by omega) a3 (by omega) (Lib.hid hidx) (by omega) (Lib.hid hget) hn

def StepC (X : Nat → Prop) (w w0 : World) (g : Nat) (sy st : Int) (A : Option Addr) (n k : Nat) (rs : List R3) (c : Conf) (e : Ending) (w' : World) : Prop :=
  e = .returned (.bool (roomC (nextC sy rs c))) ∧ RunC X w' w0.heap.size g sy st A n k (nextC sy rs c) ∧ Below w0.heap.size w0 w' ∧ Fr X w w' ∧ KeepsBook w w'

theorem isCells_own {w : World} {lo s n c b : Nat} {e : TypeId} {A : Option Addr} {cs : List Value} (h : Own w lo e s A n c cs) (hb : blk A = some b) : ¬ ∃ o : Obj, w.heap[b]? = some o ∧ o.isCells = false := by
  rintro ⟨o, ho, hc⟩
  rcases h.2 with ⟨rfl, _⟩ | ⟨b', off, cur, rfl, _, hg, _⟩
  · simp [blk] at hb
  · simp [blk] at hb; subst hb
    rw [hg] at ho; cases ho; cases hc

theorem step_c {X : Nat → Prop} {w w0 : World} {g : Nat} {sy st : Int} {A : Option Addr} {n k : Nat} {rs : List R3} {c : Conf} (hs : RunC X w w0.heap.size g sy st A n k c) (hXg : ¬ X g) (hXt : ∀ b, X b → b < w.heap.size) (hrs : S3 w0 A n rs) (hb0 : Below w0.heap.size w0 w) (hg0 : w0.heap.size ≤ g) (hg : goodC sy st rs c) (hn : n ≤ 1048576) :
    Calls Try.prog 197 #[.pointer (some ⟨g, 0, none⟩)] w (StepC X w w0 g sy st A n k rs c) := by
  obtain ⟨L, cl, R, d, hr, ol, or_, hap, hXl, hXr⟩ := hs
  obtain ⟨h1, h2, h3, h4, hnl, h5, h6, hx2, hy2, hxm, hym, hrsv⟩ := conf_parts hg
  obtain ⟨a1, a2, a3, a4, idx, hidx, hlt⟩ := at_parts (ys := c.ys.reverse) h1 h2 h3 h4 hnl h5 h6 (fun y hy => hym y (List.mem_reverse.1 hy))
  have hget := ruleOf_get (rs := rs) (ys := c.ys) hidx hlt
  have hln : rs.length = n := hrs.len
  refine (step_x (fun b => X b ∨ ∃ o : Obj, w.heap[b]? = some o ∧ o.isCells = false) w0 g sy st A n k rs c.q c.xs.reverse c.ys.reverse idx (ruleOf sy rs c.q c.ys) w
    ⟨L, cl, R, d, hr, ol, or_, hap, fun b hb h => h.elim (hXl b hb) (isCells_own ol hb), fun b hb h => h.elim (hXr b hb) (isCells_own or_ hb)⟩
    (Lib.hid (fun h => h.elim hXg (fun ⟨o, ho, hc⟩ => by rw [show w.heap[g]? = _ from hr] at ho; cases ho; cases hc)))
    (Lib.hid (fun b h => h.elim (hXt b) (fun ⟨o, ho, _⟩ => (Array.getElem?_eq_some_iff.1 ho).1)))
    hrs hb0 hg0 (by rw [List.length_reverse]; omega) (by rw [List.length_reverse]; omega) a1 (by omega) a3 (by omega) (Lib.hid hidx) (by omega) (Lib.hid hget) hn).mono ?_
  rintro e w' ⟨he, ⟨L', cl', R', d', hr', ol', or', hap', hXl', hXr'⟩, hz, hf⟩
  refine ⟨?_, ⟨L', cl', R', d', ?_, ?_, ?_, hap', fun b hb h => hXl' b hb (.inl h), fun b hb h => hXr' b hb (.inl h)⟩, hz, ⟨hf.size, fun b hb hl => hf.same b (.inl hb) hl⟩, ⟨hf.size, fun k o hk ho => (hf.same k (.inr ⟨o, hk, book_cells ho⟩) (Array.getElem?_eq_some_iff.1 hk).1).trans hk⟩⟩
  · rw [he]
    refine ret_bool ?_
    unfold roomC nextC stepC roomB
    simp
  · simpa [nextC, stepC] using hr'
  · simpa [nextC, stepC] using ol'
  · simpa [nextC, stepC] using or'

theorem Own.fr {X : Nat → Prop} {w w' : World} {A : Option Addr} {n c s lo : Nat} {e : TypeId} {cs : List Value} (h : Own w lo e s A n c cs) (hf : Fr X w w') (hX : ∀ b, blk A = some b → X b) : Own w' lo e s A n c cs :=
  h.kept (fun b hb _ hlt => hf.same b (hX b hb) hlt)
theorem Blk.fr {X : Nat → Prop} {w w' : World} {g : Nat} {t : TypeId} {cs : Array Value} (h : Blk w g t cs) (hf : Fr X w w') (hX : X g) : Blk w' g t cs := (hf.same g hX h.lt).trans h
theorem RunC.below {X : Nat → Prop} {w w' : World} {lo g : Nat} {sy st : Int} {A : Option Addr} {n k : Nat} {c : Conf} (h : RunC X w lo g sy st A n k c) (z : Below w.heap.size w w') : RunC X w' lo g sy st A n k c := by
  obtain ⟨L, cl, R, d, hr, ol, or_, hap, hXl, hXr⟩ := h
  exact ⟨L, cl, R, d, Blk.below' hr z, ol.below z, or_.below z, hap, hXl, hXr⟩
theorem keeps_below {w w' : World} (z : Below w.heap.size w w') : KeepsBook w w' := ⟨z.size, fun k _ hk _ => (z.block k (Array.getElem?_eq_some_iff.1 hk).1).trans hk⟩
-- a turn of a block that holds no cells
theorem put_cells {W : World} {l b : Nat} {o o' : Obj} {cur : Array Value} {t : TypeId} {f : Nat × Nat} (hl : W.heap[l]? = some o) (ho : isBook o = true) (hb : W.heap[b]? = some (.cells cur t f)) : (W.putObj l o').heap[b]? = some (.cells cur t f) := by
  refine (World.putObj_heap_other ?_).trans hb
  rintro rfl
  rw [hb] at hl; cases hl; cases ho
theorem Blk.put {W : World} {l g : Nat} {o : Obj} {t : TypeId} {cs : Array Value} (h : Blk W g t cs) (o' : Obj) (hl : W.heap[l]? = some o) (ho : isBook o = true) : Blk (W.putObj l o') g t cs := put_cells hl ho h
theorem Own.put {W : World} {l : Nat} {o : Obj} {A : Option Addr} {n c s lo : Nat} {e : TypeId} {cs : List Value} (h : Own W lo e s A n c cs) (o' : Obj) (hl : W.heap[l]? = some o) (ho : isBook o = true) : Own (W.putObj l o') lo e s A n c cs := by
  rcases h.2 with ⟨rfl, h1, h2⟩ | ⟨b, off, cur, rfl, h1, hg, h2⟩
  · exact ⟨h.1, .inl ⟨rfl, h1, h2⟩⟩
  · exact ⟨h.1, .inr ⟨b, off, cur, rfl, h1, put_cells hl ho hg, h2⟩⟩
theorem RunC.put {X : Nat → Prop} {W : World} {l lo g : Nat} {sy st : Int} {A : Option Addr} {n k : Nat} {c : Conf} {o : Obj} (h : RunC X W lo g sy st A n k c) (o' : Obj) (hl : W.heap[l]? = some o) (ho : isBook o = true) : RunC X (W.putObj l o') lo g sy st A n k c := by
  obtain ⟨L, cl, R, d, hr, ol, or_, hap, hXl, hXr⟩ := h
  exact ⟨L, cl, R, d, Blk.put hr o' hl ho, ol.put o' hl ho, or_.put o' hl ho, hap, hXl, hXr⟩
theorem below_put {W w : World} {B l : Nat} {o : Obj} (h : Below B w W) (hB : B ≤ l) (o' : Obj) (hl : W.heap[l]? = some o) : Below B w (W.putObj l o') :=
  h.trans ((Below.refl B W).grown (grownBy_putObj' W l o') (by have := (Array.getElem?_eq_some_iff.1 hl).1; omega) (fun k e => by cases e; omega))
theorem fr_put {X : Nat → Prop} {W : World} {l : Nat} {o : Obj} (o' : Obj) (hX : ∀ b, X b → ∃ o : Obj, W.heap[b]? = some o ∧ isBook o = false) (hl : W.heap[l]? = some o) (ho : isBook o = true) : Fr X W (W.putObj l o') :=
  ⟨by simp, fun b hb _ => World.putObj_heap_other (by rintro rfl; obtain ⟨o2, h2, h3⟩ := hX _ hb; rw [hl] at h2; cases h2; rw [ho] at h3; cases h3)⟩
end Go.Proofs.Ytbpofkggoolmpaa

/-
  The contract of impl's iterator runner.steps.
-/
namespace Go.Proofs.Ytbpofkggoolmpaa
open Go.RowKit Go.Shelf
attribute [local go_sem] Oper.semAt_some

/-- The blocks of X hold cells. -/
def XC (X : Nat → Prop) (W : World) : Prop := ∀ b, X b → ∃ o : Obj, W.heap[b]? = some o ∧ isBook o = false
theorem XC.lt {X : Nat → Prop} {W : World} (h : XC X W) : ∀ b, X b → b < W.heap.size := fun b hb => by obtain ⟨o, ho, _⟩ := h b hb; exact (Array.getElem?_eq_some_iff.1 ho).1
theorem XC.fr {X : Nat → Prop} {W W' : World} (h : XC X W) (hf : Fr X W W') : XC X W' := fun b hb => by
  obtain ⟨o, ho, hc⟩ := h b hb
  exact ⟨o, (hf.same b hb (Array.getElem?_eq_some_iff.1 ho).1).trans ho, hc⟩

/-- The machine that runs, as the iterator's contract speaks of it. -/
structure Rn where
  w0 : World
  g : Nat
  mb : Nat
  rb : Nat
  sy : Int
  st : Int
  A : Option Addr
  n : Nat
  k : Nat
  rs : List R3
  c : Conf
  most : Nat
/-- What is known of it once and for all. -/
structure Rn.Ok (p : Rn) : Prop where
  good : goodC p.sy p.st p.rs p.c
  rules : S3 p.w0 p.A p.n p.rs
  hg : p.w0.heap.size ≤ p.g
  hn : p.n ≤ 1048576
  hm : p.most ≤ 1000000
abbrev Rn.it (p : Rn) (i : Nat) : Conf := itC p.sy p.rs p.c i

/-- The runner stands behind i steps; D: the caller's own word on blocks X apart from the runner's. -/
def StS (p : Rn) (i : Nat) (D : (Nat → Prop) → World → Prop) (W : World) : Prop :=
  ∃ X, ¬ X p.g ∧ X p.mb ∧ X p.rb ∧ XC X W ∧ RunC X W p.w0.heap.size p.g p.sy p.st p.A p.n p.k (p.it i) ∧ Below p.w0.heap.size p.w0 W ∧ Blk W p.mb 2 #[.int .i64 (p.most : Int)] ∧ Blk W p.rb 150 #[.pointer (some ⟨p.g, 0, none⟩)] ∧ D X W
def StD (D : (Nat → Prop) → World → Prop) : Prop := ∀ X W W', D X W → Fr X W W' → D X W'
theorem StS.fr {p : Rn} {i : Nat} {D : (Nat → Prop) → World → Prop} (hD : StD D) {W W' : World} (h : StS p i D W) (z : Below W.heap.size W W') : StS p i D W' := by
  obtain ⟨X, h1, h2, h3, h4, h5, h6, h7, h8, h9⟩ := h
  have hf : Fr X W W' := Fr.of_below z
  exact ⟨X, h1, h2, h3, h4.fr hf, h5.below z, h6.trans (z.mono h6.size), h7.fr hf h2, h8.fr hf h3, hD X W W' h9 hf⟩
theorem StS.put {p : Rn} {i b0 : Nat} {D : (Nat → Prop) → World → Prop} (hD : StD D) (hb : p.w0.heap.size ≤ b0) : PutOk b0 (StS p i D) := by
  rintro W l o o' ⟨X, h1, h2, h3, h4, h5, h6, h7, h8, h9⟩ hl hg ho
  have hf : Fr X W (W.putObj l o') := fr_put o' h4 hg ho
  exact ⟨X, h1, h2, h3, h4.fr hf, h5.put o' hg ho, below_put h6 (by omega) o' hg, h7.fr hf h2, h8.fr hf h3, hD X W _ h9 hf⟩

def stJ (p : Rn) (D : Nat → (Nat → Prop) → World → Prop) : Nat × Bool → World → Prop
  | (i, true), W => i ≤ p.most ∧ Alive p.sy p.rs p.c i ∧ StS p i (D i) W
  | (i, false), W => (∃ j, i = j + 1 ∧ Full p.sy p.rs p.c p.most j) ∧ Below p.w0.heap.size p.w0 W ∧ ∃ X, XC X W ∧ D i X W
def stJ' (p : Rn) (D : Nat → (Nat → Prop) → World → Prop) : Nat × Bool → World → Prop
  | (i, true), W => i ≤ p.most ∧ Alive p.sy p.rs p.c i ∧ StS p i (D (i + 1)) W
  | (_, false), _ => False
def stFin (p : Rn) (D : Nat → (Nat → Prop) → World → Prop) (W : World) : Prop := ∃ i, Ended p.sy p.rs p.c p.most i ∧ StS p i (D (i + 1)) W
abbrev stEnc (x : Nat × Bool) : Array Value := #[.int .i64 (x.1 : Int), .bool x.2]

theorem stJ_put {p : Rn} {D : Nat → (Nat → Prop) → World → Prop} {b0 : Nat} (hD : ∀ i, StD (D i)) (hb : p.w0.heap.size ≤ b0) (x : Nat × Bool) : PutOk b0 (stJ p D x) := by
  obtain ⟨i, b⟩ := x
  cases b
  · rintro W l o o' ⟨h1, h2, X, h3, h4⟩ hl hg ho
    have hf : Fr X W (W.putObj l o') := fr_put o' h3 hg ho
    exact ⟨h1, below_put h2 (by omega) o' hg, X, h3.fr hf, hD i X W _ h4 hf⟩
  · rintro W l o o' ⟨h1, h2, h3⟩ hl hg ho
    exact ⟨h1, h2, StS.put (hD i) hb W l o o' h3 hl hg ho⟩
theorem stJ'_put {p : Rn} {D : Nat → (Nat → Prop) → World → Prop} {b0 : Nat} (hD : ∀ i, StD (D i)) (hb : p.w0.heap.size ≤ b0) (x : Nat × Bool) : PutOk b0 (stJ' p D x) := by
  obtain ⟨i, b⟩ := x
  cases b
  · rintro W l o o' h
    exact h.elim
  · rintro W l o o' ⟨h1, h2, h3⟩ hl hg ho
    exact ⟨h1, h2, StS.put (hD (i + 1)) hb W l o o' h3 hl hg ho⟩
theorem stFin_put {p : Rn} {D : Nat → (Nat → Prop) → World → Prop} {b0 : Nat} (hD : ∀ i, StD (D i)) (hb : p.w0.heap.size ≤ b0) : PutOk b0 (stFin p D) := by
  rintro W l o o' ⟨i, h1, h3⟩ hl hg ho
  exact ⟨i, h1, StS.put (hD (i + 1)) hb W l o o' h3 hl hg ho⟩

set_option maxHeartbeats 2000000 in
theorem steps1_seq (p : Rn) (hp : p.Ok) (D : Nat → (Nat → Prop) → World → Prop) (hD : ∀ i, StD (D i)) (Jx : Code → Nat × Bool → World → Prop) (n : Nat) :
    SeqC Fence.wide n Try.prog 268 #[.pointer (some ⟨p.mb, 0, none⟩), .pointer (some ⟨p.rb, 0, none⟩)] stEnc (stJ p D) (stJ' p D) Jx (StS p 0 (D 0)) (stFin p D) (fun c W => ∃ x, Jx c x W) := by
  intro l B Bx hB hBx hY W h0 hB0
  have hmost := hp.hm
  have HB := Lib.hid hB
  have HY := Lib.hid hY
  have HD := Lib.hid hD
  clear hB hBx hY hD
  refine callsIn_of_wp Try.func268 rfl trivial ?_ rfl
  simp only [Try.ntmps268, List.size_toArray, List.length_cons, List.length_nil, Nat.reduceAdd, Nat.reduceSub, Array.replicate_succ, Array.replicate_zero, List.push_toArray, List.append_toArray, List.nil_append, List.cons_append]
  gi_wp2
  gi_loopw [4] (fun s wr => ∃ i : Nat, s = .int .i64 (i : Int) ∧ i ≤ p.most ∧ Alive p.sy p.rs p.c i ∧ StS p i (D i) wr ∧ B wr) (fun s _ => p.most - (intOf s).toNat)
  case atStart => exact ⟨0, rfl, Nat.zero_le _, Alive.zero _ _ _, h0, hB0⟩
  case round =>
    obtain ⟨i, rfl, hi, hal, hst, hb⟩ := hrel
    have HAL := Lib.hid hal
    clear hal
    obtain ⟨fn, tmps, assign, body, hy, hR⟩ := HY.out (i, true) wr ⟨hi, HAL.out, hst⟩ hb
    dsimp only [stEnc] at hy
    gi_wp2
    refine ⟨(fun h => by cases h), hR.mono ?_⟩
    rintro e W3 (⟨rfl, ⟨_, _, hst3⟩, hb3⟩ | ⟨rfl, c, hx3, hbx3⟩)
    · have hgood := HAL.out.good hp.good
      have HGOOD := Lib.hid hgood
      clear hgood
      obtain ⟨X, hXg, hXm, hXr, hXC, hrun, hz3, bm, br, hd⟩ := hst3
      have m0 : W3.cell? ⟨p.mb, 0, none⟩ = some (.int .i64 (p.most : Int)) := bm.cell 0
      have r0 : W3.cell? ⟨p.rb, 0, none⟩ = some (.pointer (some ⟨p.g, 0, none⟩)) := br.cell 0
      have HXG := Lib.hid hXg
      have HXC := Lib.hid hXC
      have HDD := Lib.hid hd
      clear hXg hXC hd
      by_cases hlt : i < p.most
      · have hrs3 : S3 W3 p.A p.n p.rs := hp.rules.below hz3
        have hhalt := halts_c hrun hrs3 HGOOD.out hp.hn
        have HHALT := Lib.hid hhalt
        clear hhalt
        cases hh : haltC p.sy p.rs (p.it i) with
        | true =>
          have HH := Lib.hid hh
          clear hh
          gi_wp2
          refine ⟨trivial, (fun h => by cases h), (callsIn_wide.2 HHALT.out).mono ?_⟩
          rintro e W4 ⟨rfl, z4⟩
          rw [HH.out]
          gi_wp2
          have hst4 : StS p i (D (i + 1)) W4 := StS.fr (HD.out _) ⟨X, HXG.out, hXm, hXr, HXC.out, hrun, hz3, bm, br, HDD.out⟩ z4
          exact bodyPost_end (results_none rfl _ _ _) rfl ⟨⟨_, rfl⟩, .inl ⟨⟨i, ⟨hi, HAL.out, .inr HH.out⟩, hst4⟩, HB.out _ _ hb3 (keeps_below z4)⟩⟩
        | false =>
          have HH := Lib.hid hh
          clear hh
          gi_wp2
          refine ⟨trivial, (fun h => by cases h), (callsIn_wide.2 HHALT.out).mono ?_⟩
          rintro e W4 ⟨rfl, z4⟩
          rw [HH.out]
          have hst4 : StS p i (D (i + 1)) W4 := StS.fr (HD.out _) ⟨X, HXG.out, hXm, hXr, HXC.out, hrun, hz3, bm, br, HDD.out⟩ z4
          have hb4 := HB.out _ _ hb3 (keeps_below z4)
          clear HHALT m0 r0 HDD bm br hrun hz3 HXC HXG hXm hXr hb3 hst hb z4 hrs3 hR hy h0 hB0
          obtain ⟨X, hXg, hXm, hXr, hXC, hrun, hz4, bm, br, hd⟩ := hst4
          have r0 : W4.cell? ⟨p.rb, 0, none⟩ = some (.pointer (some ⟨p.g, 0, none⟩)) := br.cell 0
          have hstep := step_c hrun hXg hXC.lt hp.rules hz4 hp.hg HGOOD.out hp.hn
          have HSTEP := Lib.hid hstep
          have HXG := Lib.hid hXg
          have HXC := Lib.hid hXC
          have HDD := Lib.hid hd
          clear hstep hXg hXC hd
          gi_wp2
          refine ⟨trivial, (fun h => by cases h), (callsIn_wide.2 HSTEP.out).mono ?_⟩
          rintro e W5 ⟨rfl, hrun5, hz5, hf5, hk5⟩
          have hb5 := HB.out _ _ hb4 hk5
          have HDD5 : Hid (D (i + 1) X W5) := HD.out _ X _ _ HDD.out hf5
          have HXC5 : Hid (XC X W5) := HXC.out.fr hf5
          have bm5 := bm.fr hf5 hXm
          have br5 := br.fr hf5 hXr
          cases hro : roomC (nextC p.sy p.rs (p.it i)) with
          | true =>
            have HRO := Lib.hid hro
            clear hro
            gi_wp2
            go_roundw
            case rel => exact ⟨i + 1, by go_num, by omega, HAL.out.next HH.out HRO.out, ⟨X, HXG.out, hXm, hXr, HXC5.out, hrun5, hz5, bm5, br5, HDD5.out⟩, hb5⟩
            case measure => simp [intOf]; omega
          | false =>
            have HRO := Lib.hid hro
            clear hro
            obtain ⟨fn, tmps, assign, body, hy, hR⟩ := HY.out (i + 1, false) W5 ⟨⟨i, rfl, hlt, HAL.out, HH.out, HRO.out⟩, hz5, X, HXC5.out, HDD5.out⟩ hb5
            dsimp only [stEnc] at hy
            rw [show ((i + 1 : Nat) : Int) = (i : Int) + 1 from by omega] at hy
            gi_wp2
            refine ⟨(fun h => by cases h), hR.mono ?_⟩
            rintro e W6 (⟨rfl, hF, _⟩ | ⟨rfl, c, hx6, hbx6⟩)
            · exact hF.elim
            · gi_wp2
              exact bodyPost_ret (results_none rfl _ _ _) rfl ⟨⟨_, rfl⟩, .inr ⟨c, ⟨_, hx6⟩, hbx6⟩⟩
      · gi_wp2
        refine ⟨trivial, ?_⟩
        gi_wp2
        exact bodyPost_end (results_none rfl _ _ _) rfl ⟨⟨_, rfl⟩, .inl ⟨⟨i, ⟨hi, HAL.out, .inl (by omega)⟩, X, HXG.out, hXm, hXr, HXC.out, hrun, hz3, bm, br, HDD.out⟩, hb3⟩⟩
    · gi_wp2
      refine ⟨trivial, ?_⟩
      gi_wp2
      exact bodyPost_end (results_none rfl _ _ _) rfl ⟨⟨_, rfl⟩, .inr ⟨c, ⟨_, hx3⟩, hbx3⟩⟩
end Go.Proofs.Ytbpofkggoolmpaa

/-
  Contracts of impl's runner.steps and runner.run.
-/
namespace Go.Proofs.Ytbpofkggoolmpaa
open Go.RowKit Go.Shelf
attribute [local go_sem] Oper.semAt_some

theorem steps_any (g : Nat) (most : Int) (w : World) :
    Calls Try.prog 200 #[.pointer (some ⟨g, 0, none⟩), .int .i64 most] w fun e w' => e = .returned (.func (.func 268) #[] #[.pointer (some ⟨w.heap.size + 1, 0, none⟩), .pointer (some ⟨w.heap.size, 0, none⟩)]) ∧
      w' = (w.alloc (.cells #[.pointer (some ⟨g, 0, none⟩)] 150)).alloc (.cells #[.int .i64 most] 2) := by
  go_enter Try.func200, Try.ntmps200
  go_wp2_with fail
  go_ret
  exact ⟨rfl, rfl⟩

theorem Own.set_far {w : World} {A : Option Addr} {n c s lo b o : Nat} {e : TypeId} {cs : List Value} (h : Own w lo e s A n c cs) (hb : blk A ≠ some b) (u : Value) : Own (w.setCell ⟨b, o, none⟩ u) lo e s A n c cs := h.far (p := ⟨b, o, none⟩) hb u
theorem RunC.set {X : Nat → Prop} {W : World} {lo g b o : Nat} {sy st : Int} {A : Option Addr} {n k : Nat} {c : Conf} (h : RunC X W lo g sy st A n k c) (hg : ¬ X g) (hb : X b) (u : Value) : RunC X (W.setCell ⟨b, o, none⟩ u) lo g sy st A n k c := by
  obtain ⟨L, cl, R, d, hr, ol, or_, hap, hXl, hXr⟩ := h
  exact ⟨L, cl, R, d, Blk.far hr (p := ⟨b, o, none⟩) (fun e => hg (by rw [e]; exact hb)) u, ol.set_far (fun e => hXl b e hb) u, or_.set_far (fun e => hXr b e hb) u, hap, hXl, hXr⟩
theorem isCells_set {W : World} {b o j : Nat} {u : Value} {ob : Obj} (h : W.heap[j]? = some ob) (hc : isBook ob = false) : ∃ o' : Obj, (W.setCell ⟨b, o, none⟩ u).heap[j]? = some o' ∧ isBook o' = false := by
  cases hcl : ob.isCells
  · exact ⟨ob, (KeepsOthers.setCell W ⟨b, o, none⟩ u).same j ob h hcl, hc⟩
  · by_cases e : j = b
    · subst e
      cases ob with
      | cells cur t f =>
        refine ⟨.cells (cur.setIfInBounds o u) t f, ?_, rfl⟩
        simp [World.setCell, Array.getElem?_modify, h]
      | _ => cases hcl
    · exact ⟨ob, (Below.heap_setCell W ⟨b, o, none⟩ u j e).trans h, hc⟩
theorem XC.set {X : Nat → Prop} {W : World} (h : XC X W) (b o : Nat) (u : Value) : XC X (W.setCell ⟨b, o, none⟩ u) := fun j hj => by
  obtain ⟨ob, h1, h2⟩ := h j hj
  exact isCells_set h1 h2
/-- A store into a block of the caller's own. -/
theorem StS.set {p : Rn} {i b o : Nat} {u : Value} {D D' : (Nat → Prop) → World → Prop} {W : World} (h : StS p i D W) (h1 : b ≠ p.mb) (h2 : b ≠ p.rb) (h3 : p.w0.heap.size ≤ b) (hb : ∀ X, D X W → X b) (hD : ∀ X, D X W → D' X (W.setCell ⟨b, o, none⟩ u)) : StS p i D' (W.setCell ⟨b, o, none⟩ u) := by
  obtain ⟨X, k1, k2, k3, k4, k5, k6, k7, k8, k9⟩ := h
  exact ⟨X, k1, k2, k3, k4.set b o u, k5.set k1 (hb X k9) u, k6.setCell (p := ⟨b, o, none⟩) h3 u, k7.far (p := ⟨b, o, none⟩) (Ne.symm h1) u, k8.far (p := ⟨b, o, none⟩) (Ne.symm h2) u, hD X k9⟩

/-- What run's own cells hold ahead of round i. -/
def runD (s : Nat) (i : Nat) (X : Nat → Prop) (W : World) : Prop :=
  X s ∧ X (s + 1) ∧ X (s + 1 + 1) ∧ X (s + 1 + 1 + 1) ∧ Blk W s 2 #[.int .i64 0] ∧ Blk W (s + 1) 4 #[.bool false] ∧ Blk W (s + 1 + 1) 2 #[.int .i64 0] ∧ Blk W (s + 1 + 1 + 1) 2 #[.int .i64 ((i - 1 : Nat) : Int)]
theorem runD_st (s i : Nat) : StD (runD s i) := by
  rintro X W W' ⟨h0, h1, h2, h3, b0, b1, b2, b3⟩ hf
  exact ⟨h0, h1, h2, h3, b0.fr hf h0, b1.fr hf h1, b2.fr hf h2, b3.fr hf h3⟩
def runJx (p : Rn) (s : Nat) (c : Code) (_x : Nat × Bool) (W : World) : Prop :=
  c = .ret ∧ (∃ j, Full p.sy p.rs p.c p.most j) ∧ Below p.w0.heap.size p.w0 W ∧ Blk W s 2 #[.int .i64 0] ∧ Blk W (s + 1) 4 #[.bool false] ∧ Blk W (s + 1 + 1) 2 #[.int .i64 5]
theorem runJx_put {p : Rn} {s b0 : Nat} {c : Code} {x : Nat × Bool} (hb : p.w0.heap.size ≤ b0) : PutOk b0 (runJx p s c x) := by
  rintro W l o o' ⟨h1, h2, h3, h4, h5, h6⟩ hl hg ho
  exact ⟨h1, h2, below_put h3 (by omega) o' hg, h4.put o' hg ho, h5.put o' hg ho, h6.put o' hg ho⟩

/-- What run leaves. -/
def RunP (w0 : World) (g : Nat) (sy st : Int) (A : Option Addr) (n k : Nat) (rs : List R3) (c : Conf) (most : Nat) (e : Ending) (w' : World) : Prop :=
  ((∃ i, Ended sy rs c most i ∧ e = .returned (.tuple #[.int .i64 (i : Int), .bool (haltC sy rs (itC sy rs c i)), .int .i64 0]) ∧ RunC (fun _ => False) w' w0.heap.size g sy st A n k (itC sy rs c i)) ∨
    (∃ i, Full sy rs c most i) ∧ e = .returned (.tuple #[.int .i64 0, .bool false, .int .i64 5])) ∧ Below w0.heap.size w0 w'

set_option maxRecDepth 100000 in
set_option maxHeartbeats 4000000 in
theorem run_any (w0 w : World) (g : Nat) (sy st : Int) (A : Option Addr) (n k : Nat) (rs : List R3) (c : Conf) (most : Nat) (hrun : RunC (fun _ => False) w w0.heap.size g sy st A n k c) (hrs : S3 w0 A n rs) (hb0 : Below w0.heap.size w0 w) (hg0 : w0.heap.size ≤ g) (hg : goodC sy st rs c) (hn : n ≤ 1048576) (hm : most ≤ 1000000) :
    Calls Try.prog 114 #[.pointer (some ⟨g, 0, none⟩), .int .i64 (most : Int)] w (RunP w0 g sy st A n k rs c most) := by
  refine (callsIn_wide (n := 3)).1 (callsIn_of_wp_marks Try.func114 rfl trivial (wpIn_wide.2 ?_) rfl)
  simp only [Try.ntmps114, List.size_toArray, List.length_cons, List.length_nil, Nat.reduceAdd, Nat.reduceSub, Array.replicate_succ, Array.replicate_zero, List.push_toArray, List.append_toArray, List.nil_append, List.cons_append]
  obtain ⟨s, hs⟩ : ∃ s, s = w.heap.size := ⟨_, rfl⟩
  obtain ⟨W4, hW4⟩ : ∃ W, W = (((w.alloc (.cells #[.int .i64 0] 2)).alloc (.cells #[.bool false] 4)).alloc (.cells #[.int .i64 0] 2)).alloc (.cells #[.int .i64 0] 2) := ⟨_, rfl⟩
  have z4 : Below w.heap.size w W4 := by rw [hW4]; exact ((((Below.refl _ _).alloc (Nat.le_refl _) _).alloc (by simp) _).alloc (by simp; omega) _).alloc (by simp; omega) _
  have e0 : Blk W4 s 2 #[.int .i64 0] := by rw [hW4, hs]; exact (((Blk.new w _ _).alloc _).alloc _).alloc _
  have e1 : Blk W4 (s + 1) 4 #[.bool false] := by rw [hW4, hs]; exact ((by simpa using Blk.new (w.alloc (.cells #[.int .i64 0] 2)) 4 #[.bool false] : Blk _ _ _ _).alloc _).alloc _
  have e2 : Blk W4 (s + 1 + 1) 2 #[.int .i64 0] := by rw [hW4, hs]; exact (by simpa using Blk.new ((w.alloc (.cells #[.int .i64 0] 2)).alloc (.cells #[.bool false] 4)) 2 #[.int .i64 0] : Blk _ _ _ _).alloc _
  have e3 : Blk W4 (s + 1 + 1 + 1) 2 #[.int .i64 0] := by rw [hW4, hs]; exact (by simpa using Blk.new (((w.alloc (.cells #[.int .i64 0] 2)).alloc (.cells #[.bool false] 4)).alloc (.cells #[.int .i64 0] 2)) 2 #[.int .i64 0] : Blk _ _ _ _)
  have z4s : W4.heap.size = s + 4 := by rw [hW4, hs]; simp
  have HW4 := Lib.hid hW4
  clear hW4
  go_wp2_with fail
  rw [← HW4.out]
  clear HW4
  have HS := Lib.hid hs
  have HZ4 := Lib.hid z4s
  clear z4s
  refine (steps_any _ _ _).mono ?_
  rintro e W6 ⟨rfl, hW6⟩
  rw [← hs]
  clear hs
  have r6 : Blk W6 W4.heap.size 150 #[.pointer (some ⟨g, 0, none⟩)] := by rw [hW6]; exact (Blk.new W4 _ _).alloc _
  have m6 : Blk W6 (W4.heap.size + 1) 2 #[.int .i64 (most : Int)] := by rw [hW6]; simpa using Blk.new (W4.alloc (.cells #[.pointer (some ⟨g, 0, none⟩)] 150)) 2 #[.int .i64 (most : Int)]
  have z6 : Below W4.heap.size W4 W6 := by rw [hW6]; exact ((Below.refl _ _).alloc (Nat.le_refl _) _).alloc (by simp) _
  clear hW6
  obtain ⟨p, hp⟩ : ∃ p : Rn, p = ⟨w0, g, W4.heap.size + 1, W4.heap.size, sy, st, A, n, k, rs, c, most⟩ := ⟨_, rfl⟩
  have hok : p.Ok := by rw [hp]; exact ⟨hg, hrs, hg0, hn, hm⟩
  have hgw : g < s := by rw [HS.out]; obtain ⟨L, cl, R, d, hr, _⟩ := hrun; exact Blk.lt hr
  have hw0s : w0.heap.size ≤ s := by rw [HS.out]; exact hb0.size
  have z06 : Below w0.heap.size w0 W6 := (hb0.trans (z4.mono hb0.size)).trans (z6.mono (hb0.trans (z4.mono hb0.size)).size)
  have s6 : W4.heap.size + 1 < W6.heap.size := m6.lt
  have hSt : StS p 0 (runD s 0) W6 := by
    rw [hp]
    obtain ⟨L, cl, R, d, hr, ol, or_, hap, _, _⟩ := hrun
    have z46 : Below w.heap.size w W6 := z4.trans (z6.mono z4.size)
    refine ⟨fun b => b = s ∨ b = s + 1 ∨ b = s + 1 + 1 ∨ b = s + 1 + 1 + 1 ∨ b = W4.heap.size ∨ b = W4.heap.size + 1, ?_, by simp, by simp, ?_, ?_, z06, m6, r6, ?_⟩
    · have := HZ4.out
      show ¬ (g = s ∨ g = s + 1 ∨ g = s + 1 + 1 ∨ g = s + 1 + 1 + 1 ∨ g = W4.heap.size ∨ g = W4.heap.size + 1)
      omega
    · intro b hb
      have f0 := e0.below' z6; have f1 := e1.below' z6; have f2 := e2.below' z6; have f3 := e3.below' z6
      rcases hb with rfl | rfl | rfl | rfl | rfl | rfl
      · exact ⟨_, f0, rfl⟩
      · exact ⟨_, f1, rfl⟩
      · exact ⟨_, f2, rfl⟩
      · exact ⟨_, f3, rfl⟩
      · exact ⟨_, r6, rfl⟩
      · exact ⟨_, m6, rfl⟩
    · have hz := HZ4.out
      have hs' := HS.out
      refine ⟨L, cl, R, d, Blk.below' hr z46, ol.below z46, or_.below z46, hap, ?_, ?_⟩
      · intro b hb hX
        have := ol.blk_lt b hb
        revert hX
        show ¬ (b = s ∨ b = s + 1 ∨ b = s + 1 + 1 ∨ b = s + 1 + 1 + 1 ∨ b = W4.heap.size ∨ b = W4.heap.size + 1)
        omega
      · intro b hb hX
        have := or_.blk_lt b hb
        revert hX
        show ¬ (b = s ∨ b = s + 1 ∨ b = s + 1 + 1 ∨ b = s + 1 + 1 + 1 ∨ b = W4.heap.size ∨ b = W4.heap.size + 1)
        omega
    · exact ⟨by simp, by simp, by simp, by simp, e0.below' z6, e1.below' z6, e2.below' z6, e3.below' z6⟩
  have HST := Lib.hid hSt
  clear hSt e0 e1 e2 e3 r6 m6 hrun z4 z6
  have hpm : p.mb = W4.heap.size + 1 := by rw [hp]
  have hpr : p.rb = W4.heap.size := by rw [hp]
  have hpw : p.w0 = w0 := by rw [hp]
  have HPM := Lib.hid hpm
  have HPR := Lib.hid hpr
  have HPW := Lib.hid hpw
  have HP := Lib.hid hp
  clear hpm hpr hpw hp
  have hseq := steps1_seq p hok (runD s) (runD_st s) (runJx p s) 2
  rw [HPM.out, HPR.out] at hseq
  have hpb : p.w0.heap.size ≤ W6.heap.size := by rw [HPW.out]; exact z06.size
  go_wp2_with fail
  refine (wpIn_wide (n := 3)).1 (wpIn_rangeFunc_st rfl (by decide) (gf := 268) (lb := #[.pointer (some ⟨W4.heap.size + 1, 0, none⟩), .pointer (some ⟨W4.heap.size, 0, none⟩)]) rfl trivial (enters_of Try.func268 (by kernel_rfl) rfl) hseq (fun _ => rfl)
    (stJ_put (runD_st s) hpb) (stJ'_put (runD_st s) hpb) (fun c x => runJx_put hpb) (stFin_put (runD_st s) hpb) (fun c W l o o' ⟨x, hx⟩ h1 h2 h3 => ⟨x, runJx_put hpb W l o o' hx h1 h2 h3⟩)
    (fun r => (HST.out.fr (runD_st s 0) ((Below.refl _ _).alloc (Nat.le_refl _) _)).fr (runD_st s 0) ((Below.refl _ _).alloc (Nat.le_refl _) _))
    (fun x => { tmps := #[.pointer (some ⟨g, 0, none⟩), .int .i64 (most : Int), undef, undef, .pointer (some ⟨s, 0, none⟩), .pointer (some ⟨s + 1, 0, none⟩), .pointer (some ⟨s + 1 + 1, 0, none⟩), .pointer (some ⟨s + 1 + 1 + 1, 0, none⟩), .int .i64 (x.1 : Int), .bool x.2, .pointer (some ⟨g, 0, none⟩), .int .i64 (most : Int), .func (.func 268) #[] #[.pointer (some ⟨W4.heap.size + 1, 0, none⟩), .pointer (some ⟨W4.heap.size, 0, none⟩)], .int .i64 (x.1 : Int), .bool x.2, undef, undef, undef, undef, undef, undef], defers := [] }) ?assign ?body ?done ?stop)
  case assign =>
    intro l x W K hK
    gi_wp2
    exact hK
  case body =>
    rintro l ⟨i, b⟩ W hl hJ
    cases b
    · obtain ⟨⟨j, rfl, hfull⟩, hz, X, hXC, hX0, hX1, hX2, hX3, b0, b1, b2, b3⟩ := hJ
      have HF := Lib.hid hfull
      clear hfull
      have c0 : W.cell? ⟨s, 0, none⟩ = some (.int .i64 0) := b0.cell 0
      have c1 : W.cell? ⟨s + 1, 0, none⟩ = some (.bool false) := b1.cell 0
      have c2 : W.cell? ⟨s + 1 + 1, 0, none⟩ = some (.int .i64 0) := b2.cell 0
      have f0 := b0.frozen 0
      have f1 := b1.frozen 0
      have f2 := b2.frozen 0
      gi_wp2
      refine ⟨((KeepsBook.setCell _ _ _).trans (KeepsBook.setCell _ _ _)).trans (KeepsBook.setCell _ _ _), rfl, ⟨j, HF.out⟩, ?_, ?_, ?_, ?_⟩
      · rw [HPW.out] at hz ⊢
        exact ((hz.setCell (p := ⟨s, 0, none⟩) hw0s _).setCell (p := ⟨s + 1, 0, none⟩) (show w0.heap.size ≤ s + 1 by omega) _).setCell (p := ⟨s + 1 + 1, 0, none⟩) (show w0.heap.size ≤ s + 1 + 1 by omega) _
      · exact ((b0.set_ 0 _).far (p := ⟨s + 1, 0, none⟩) (show s ≠ s + 1 by omega) _).far (p := ⟨s + 1 + 1, 0, none⟩) (show s ≠ s + 1 + 1 by omega) _
      · exact ((b1.far (p := ⟨s, 0, none⟩) (show s + 1 ≠ s by omega) _).set_ 0 _).far (p := ⟨s + 1 + 1, 0, none⟩) (show s + 1 ≠ s + 1 + 1 by omega) _
      · exact ((b2.far (p := ⟨s, 0, none⟩) (show s + 1 + 1 ≠ s by omega) _).far (p := ⟨s + 1, 0, none⟩) (show s + 1 + 1 ≠ s + 1 by omega) _).set_ 0 _
    · obtain ⟨hi, hal, hst⟩ := hJ
      have HAL := Lib.hid hal
      clear hal
      have hst' := hst
      obtain ⟨X, _, _, _, _, _, _, _, _, _, _, _, _, _, _, _, b3⟩ := hst'
      have c3 : W.cell? ⟨s + 1 + 1 + 1, 0, none⟩ = some (.int .i64 ((i - 1 : Nat) : Int)) := b3.cell 0
      have f3 := b3.frozen 0
      gi_wp2
      refine ⟨KeepsBook.setCell _ _ _, hi, HAL.out, hst.set ?_ ?_ ?_ (fun X h => h.2.2.2.1) ?_⟩
      · rw [HPM.out, HZ4.out]; omega
      · rw [HPR.out, HZ4.out]; omega
      · rw [HPW.out]; omega
      · rintro X ⟨x0, x1, x2, x3, d0, d1, d2, d3⟩
        exact ⟨x0, x1, x2, x3, d0.far (p := ⟨s + 1 + 1 + 1, 0, none⟩) (show s ≠ s + 1 + 1 + 1 by omega) _, d1.far (p := ⟨s + 1 + 1 + 1, 0, none⟩) (show s + 1 ≠ s + 1 + 1 + 1 by omega) _, d2.far (p := ⟨s + 1 + 1 + 1, 0, none⟩) (show s + 1 + 1 ≠ s + 1 + 1 + 1 by omega) _, d3.set_ 0 _⟩
  case done =>
    rintro D W hD ⟨i, hend, hst⟩ hK
    rw [HP.out] at hend hst
    have hend' : Ended sy rs c most i := hend
    have HEND := Lib.hid hend'
    clear hend hend'
    obtain ⟨X, hXg, _, _, hXC, hrunW', hzW', _, _, hX0, hX1, hX2, hX3, b0, b1, b2, b3⟩ := hst
    have hrunW : RunC X W w0.heap.size g sy st A n k (itC sy rs c i) := hrunW'
    have hzW : Below w0.heap.size w0 W := hzW'
    clear hrunW' hzW'
    have HXG : Hid (¬ X g) := hXg
    have HXC := Lib.hid hXC
    clear hXg hXC
    have c0 : W.cell? ⟨s, 0, none⟩ = some (.int .i64 0) := b0.cell 0
    have c1 : W.cell? ⟨s + 1, 0, none⟩ = some (.bool false) := b1.cell 0
    have c2 : W.cell? ⟨s + 1 + 1, 0, none⟩ = some (.int .i64 0) := b2.cell 0
    have c3 : W.cell? ⟨s + 1 + 1 + 1, 0, none⟩ = some (.int .i64 (i : Int)) := b3.cell 0
    have hgoodi : goodC sy st rs (itC sy rs c i) := HEND.out.2.1.good hg
    have hhalt := halts_c (w := W.drewN 1) hrunW ((hrs.below hzW).drewN 1) hgoodi hn
    have HHALT := Lib.hid hhalt
    clear hhalt
    have n0 : ¬ s + 1 + 1 + 1 = s := by omega
    have n1 : ¬ s + 1 + 1 + 1 = s + 1 := by omega
    have n2 : ¬ s + 1 + 1 + 1 = s + 1 + 1 := by omega
    go_wp2_with fail
    go_region_held3 (fun w' => w'.cell? ⟨s + 1 + 1 + 1, 0, none⟩ = some (.int .i64 (i : Int)))
      (first | (go_keep; done) | (exact (b3.below' z7).cell 0) | (exact far_set n0 ((b3.below' z7).cell 0)) | (exact far_set n1 (far_set n0 ((b3.below' z7).cell 0))) | (exact far_set n2 (far_set n1 (far_set n0 ((b3.below' z7).cell 0)))))
      ((go_at_call 195; refine HHALT.out.mono ?_; rintro e W7 ⟨rfl, z7'⟩; have z7 : Below W.heap.size W W7 := below_undrew z7'; have c0 : W7.cell? ⟨s, 0, none⟩ = some (.int .i64 0) := (b0.below' z7).cell 0; have c1 : W7.cell? ⟨s + 1, 0, none⟩ = some (.bool false) := (b1.below' z7).cell 0; have c2 : W7.cell? ⟨s + 1 + 1, 0, none⟩ = some (.int .i64 0) := (b2.below' z7).cell 0; have f0 := (b0.below' z7).frozen 0; have f1 := (b1.below' z7).frozen 0; have f2 := (b2.below' z7).frozen 0))
    go_wp2_with fail
    have d0 := (((b0.below' z7).set_ 0 (.int .i64 (i : Int))).far (p := ⟨s + 1, 0, none⟩) (show s ≠ s + 1 by omega) (.bool (haltC sy rs (itC sy rs c i)))).far (p := ⟨s + 1 + 1, 0, none⟩) (show s ≠ s + 1 + 1 by omega) (.int .i64 0)
    have d1 := (((b1.below' z7).far (p := ⟨s, 0, none⟩) (show s + 1 ≠ s by omega) (.int .i64 (i : Int))).set_ 0 (.bool (haltC sy rs (itC sy rs c i)))).far (p := ⟨s + 1 + 1, 0, none⟩) (show s + 1 ≠ s + 1 + 1 by omega) (.int .i64 0)
    have d2 := (((b2.below' z7).far (p := ⟨s, 0, none⟩) (show s + 1 + 1 ≠ s by omega) (.int .i64 (i : Int))).far (p := ⟨s + 1, 0, none⟩) (show s + 1 + 1 ≠ s + 1 by omega) (.bool (haltC sy rs (itC sy rs c i)))).set_ 0 (.int .i64 0)
    have dr := (((hrunW.below z7).set HXG.out hX0 (.int .i64 (i : Int)) (o := 0)).set HXG.out hX1 (.bool (haltC sy rs (itC sy rs c i))) (o := 0)).set HXG.out hX2 (.int .i64 0) (o := 0)
    have hz7 : Below w0.heap.size w0 W7 := hzW.trans (z7.mono hzW.size)
    have dz := ((hz7.setCell (p := ⟨s, 0, none⟩) hw0s (.int .i64 (i : Int))).setCell (p := ⟨s + 1, 0, none⟩) (show w0.heap.size ≤ s + 1 by omega) (.bool (haltC sy rs (itC sy rs c i)))).setCell (p := ⟨s + 1 + 1, 0, none⟩) (show w0.heap.size ≤ s + 1 + 1 by omega) (.int .i64 0)
    have hK7 := (((KeepsBook.setCell W7 ⟨s, 0, none⟩ (.int .i64 (i : Int))).trans (KeepsBook.setCell _ ⟨s + 1, 0, none⟩ (.bool (haltC sy rs (itC sy rs c i))))).trans (KeepsBook.setCell _ ⟨s + 1 + 1, 0, none⟩ (.int .i64 0))).same D _ ((keeps_below z7).same D _ hK rfl) rfl
    generalize ((W7.setCell ⟨s, 0, none⟩ (.int .i64 (i : Int))).setCell ⟨s + 1, 0, none⟩ (.bool (haltC sy rs (itC sy rs c i)))).setCell ⟨s + 1 + 1, 0, none⟩ (.int .i64 0) = Wf at *
    have k0 : (Wf.putObj D (.deferred none)).cell? ⟨s, 0, none⟩ = some (.int .i64 (i : Int)) := (d0.put (.deferred none) hK7 rfl).cell 0
    have k1 : (Wf.putObj D (.deferred none)).cell? ⟨s + 1, 0, none⟩ = some (.bool (haltC sy rs (itC sy rs c i))) := (d1.put (.deferred none) hK7 rfl).cell 0
    have k2 : (Wf.putObj D (.deferred none)).cell? ⟨s + 1 + 1, 0, none⟩ = some (.int .i64 0) := (d2.put (.deferred none) hK7 rfl).cell 0
    refine ⟨by simp, .inl ⟨_, _, rfl, run_takeDeferred hK7, ?_⟩⟩
    refine ⟨.tuple #[.int .i64 (i : Int), .bool (haltC sy rs (itC sy rs c i)), .int .i64 0], by simp [results, Try.results114, go_sem, k0, k1, k2], .inl ⟨i, HEND.out, rfl, ?_⟩, ?_⟩
    · obtain ⟨L, cl, R, d, hr, ol, or_, hap, hXl, hXr⟩ := dr.put (.deferred none) hK7 rfl
      exact ⟨L, cl, R, d, hr, ol, or_, hap, fun _ _ h => h, fun _ _ h => h⟩
    · have hsz := z06.size
      exact below_put dz (by omega) _ hK7
  case stop =>
    rintro D c' W hD ⟨x, rfl, hfull, hz, b0, b1, b2⟩ hK
    have HF := Lib.hid hfull
    clear hfull
    refine wpIn_wide.2 ?_
    go_wp2_with fail
    have k0 : (W.putObj D (.deferred none)).cell? ⟨s, 0, none⟩ = some (.int .i64 0) := (b0.put (.deferred none) hK rfl).cell 0
    have k1 : (W.putObj D (.deferred none)).cell? ⟨s + 1, 0, none⟩ = some (.bool false) := (b1.put (.deferred none) hK rfl).cell 0
    have k2 : (W.putObj D (.deferred none)).cell? ⟨s + 1 + 1, 0, none⟩ = some (.int .i64 5) := (b2.put (.deferred none) hK rfl).cell 0
    refine ⟨by simp, .inl ⟨_, _, rfl, run_takeDeferred hK, ?_⟩⟩
    refine ⟨.tuple #[.int .i64 0, .bool false, .int .i64 5], by simp [results, Try.results114, go_sem, k0, k1, k2], .inr ⟨?_, rfl⟩, ?_⟩
    · obtain ⟨j, hj⟩ := HF.out
      rw [HP.out] at hj
      exact ⟨j, hj⟩
    · rw [HPW.out] at hz hpb
      exact below_put hz (by omega) _ hK
end Go.Proofs.Ytbpofkggoolmpaa

/-
  Contract of the reference's l05Budget.
-/
namespace Go.Proofs.Ytbpofkggoolmpaa
open Go.RowKit

theorem l05Budget_any (b : Int) (w : World) : Calls Try.prog 120 #[.int .i64 b] w fun e w' => e = .returned (.bool (inB b 1 20000)) ∧ w = w' := by
  go_enter Try.func120, Try.ntmps120
  go_wp2_with (go_at_call 102; refine (l00In_any _ _ _ _).mono ?_; rintro e w' ⟨rfl, rfl⟩)
  go_ret
  exact ⟨rfl, rfl⟩
theorem l05Budget_is {b : Int} {v : Bool} (h : inB b 1 20000 = v) (w : World) : Calls Try.prog 120 #[.int .i64 b] w fun e w' => e = .returned (.bool v) ∧ w = w' := h ▸ l05Budget_any b w
end Go.Proofs.Ytbpofkggoolmpaa

/-
  Budgets: impl.budgetOk, spec.l05Budget.
-/
namespace Go.Proofs.Ytbpofkggoolmpaa
open Go.RowKit
theorem budgetOk_any (b : Int) (w : World) : Calls Try.prog 112 #[.int .i64 b] w fun e w' => e = .returned (.bool (inB b 1 20000)) ∧ w = w' := by
  go_enter Try.func112, Try.ntmps112
  go_wp2_with (go_at_call 104; refine (within_any _ _ _ _).mono ?_; rintro e w' ⟨rfl, rfl⟩)
  go_ret
  exact ⟨rfl, rfl⟩
theorem budgetOk_is {b : Int} {v : Bool} (h : inB b 1 20000 = v) (w : World) : Calls Try.prog 112 #[.int .i64 b] w fun e w' => e = .returned (.bool v) ∧ w = w' := h ▸ budgetOk_any b w
end Go.Proofs.Ytbpofkggoolmpaa
