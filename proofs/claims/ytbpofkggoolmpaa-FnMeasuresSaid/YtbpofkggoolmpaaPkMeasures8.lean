/-
  A map from numbers to counts that the call makes.
-/
import Derived.Test.YtbpofkggoolmpaaPkMeasures0
import Derived.Test.YtbpofkggoolmpaaPkMeasures1
import Derived.Test.YtbpofkggoolmpaaPkMeasures5
import Derived.Test.YtbpofkggoolmpaaPkMeasures7
import Derived.Maps.Own
import Derived.Maps.OwnSet
import Derived.Maps.Views
import Derived.Maps.RangeWalk
namespace Go.Proofs.Ytbpofkggoolmpaa
open Go.RowKit Go.Maps

theorem intKeyed : Keyed Try.prog 2 := int_keyed Try.underlying2
/-- Block b is a map of num entries, at most N, that holds the counts f; 0 is 'not there'. -/
def IMap (W : World) (b N num : Nat) (f : Int → Nat) : Prop :=
  ∃ D : DataW Unit, W.ownsMap Try.prog 2 (plainElem Try.prog 2) b N D ∧ Go.Maps.size D = num ∧ ∀ k : Int, D.atKey (.int .i64 k) (.lit (.int .i64 0)) = .lit (.int .i64 (f k)) ∧ Go.Maps.has D (.int .i64 k) = decide (f k ≠ 0)
theorem IMap.new (w : World) : IMap (w.alloc (.map #[] 0)) w.heap.size 0 0 (fun _ => 0) :=
  ⟨.map [], World.ownsMap_made _ _ _ _, rfl, fun _ => ⟨rfl, rfl⟩⟩
theorem IMap.lt {W : World} {b N num : Nat} {f : Int → Nat} (h : IMap W b N num f) : b < W.heap.size := by
  obtain ⟨D, ho, _⟩ := h
  exact ho.lt
theorem IMap.keep {W W' : World} {b N num : Nat} {f : Int → Nat} (h : IMap W b N num f) (hk : W'.heap[b]? = W.heap[b]?) : IMap W' b N num f := by
  obtain ⟨D, ⟨es, clock, hb, F, hs, hD⟩, hM, hm⟩ := h
  exact ⟨D, ⟨es, clock, hk.trans hb, F, hs, hD⟩, hM, hm⟩
theorem IMap.below {W W' : World} {b N num : Nat} {f : Int → Nat} (h : IMap W b N num f) (z : Below W.heap.size W W') : IMap W' b N num f := h.keep (z.block b h.lt)
theorem i64_wf {a : Int} (h0 : -1000000000 ≤ a) (h1 : a ≤ 1000000000) : (Lit.int .i64 a).wf = true := by
  have e1 : IntKind.min .i64 = -9223372036854775808 := rfl
  have e2 : IntKind.max .i64 = 9223372036854775807 := rfl
  show (decide (IntKind.min .i64 ≤ a) && decide (a ≤ IntKind.max .i64)) = true
  rw [e1, e2, decide_eq_true (by omega), decide_eq_true (by omega)]; rfl
theorem IMap.look {W : World} {b N num : Nat} {f : Int → Nat} (h : IMap W b N num f) (k : Int) (h0 : -1000000000 ≤ k) (h1 : k ≤ 1000000000) :
    (Instr.lookup 157 (.map (some b)) (.int .i64 k) false).run Try.prog W = .ok (.int .i64 (f k)) W := by
  obtain ⟨D, ho, _, hm⟩ := h
  have hz : (zeroValue 2).run Try.prog W = .ok (.int .i64 0) W := by kernel_rfl
  obtain ⟨c, hrun, hat, _⟩ := ho.lookup_int intKeyed Try.underlying157 Try.underlying2 hz (keyOf_int_mk Try.underlying2 (i64_wf h0 h1))
  rw [(hm k).1] at hat
  cases hat
  exact hrun
theorem IMap.put {W : World} {b N num : Nat} {f : Int → Nat} (h : IMap W b N num f) (hn : N < maxLen) (k : Int) (h0 : -1000000000 ≤ k) (h1 : k ≤ 1000000000) (hf : (f k : Int) ≤ 100000000) :
    ∃ w', (Instr.mapUpdate 157 (.map (some b)) (.int .i64 k) (.int .i64 ((f k : Int) + 1))).run Try.prog W = .ok () w' ∧ IMap w' b (N + 1) (if f k = 0 then num + 1 else num) (fun p => f p + (if k = p then 1 else 0)) ∧ W.grownBy w' (some b) := by
  obtain ⟨D, ho, hsz, hm⟩ := h
  obtain ⟨w', hrun, ho', hg⟩ := ho.update intKeyed Try.underlying157 hn (keyOf_int_mk Try.underlying2 (i64_wf h0 h1)) (plainElem_int Try.underlying2 (i64_wf (a := (f k : Int) + 1) (by omega) (by omega)))
  refine ⟨w', hrun, ⟨_, ho', ?_, fun p => ?_⟩, hg⟩
  · rw [size_put (ho.tidy intKeyed), (hm k).2, hsz]
    by_cases e : f k = 0
    · rw [if_pos e, if_neg (by simp [e])]
    · rw [if_neg e, if_pos (by simp [e])]
  · have hM := ho.isMap
    by_cases e : k = p
    · subst e
      rw [atKey_put_same hM (by trivial), has_put_same hM (by trivial)]
      simp
    · have hne : (Lit.int .i64 p) ≠ .int .i64 k := fun h => e (by cases h; rfl)
      have e2 : f p + (if k = p then 1 else 0) = f p := by rw [if_neg e]; rfl
      simp only [e2]
      rw [atKey_put_other hne, has_put_other hne]
      exact hm p
end Go.Proofs.Ytbpofkggoolmpaa

/-
  Contracts of impl's nodeStatus and NodeStatus.
-/
namespace Go.Proofs.Ytbpofkggoolmpaa
open Go.RowKit

theorem at_c {X : Nat → Prop} {w : World} {lo g : Nat} {sy st : Int} {A : Option Addr} {n k : Nat} {rs : List R3} {c : Conf} (hs : RunC X w lo g sy st A n k c) (hg : goodC sy st rs c) :
    Calls Try.prog 262 #[.pointer (some ⟨g, 0, none⟩)] w fun e w' => e = .returned (.int .i64 (atI sy c.q c.ys.reverse)) ∧ ∃ nq, w' = w.drewN nq := by
  obtain ⟨L, cl, R, d, hr, ol, or_, _⟩ := hs
  obtain ⟨h1, h2, h3, h4, hnl, h5, h6, hx2, hy2, hxm, hym, hrsv⟩ := conf_parts hg
  obtain ⟨a1, a2, a3, a4, idx, hidx, hlt⟩ := at_parts (ys := c.ys.reverse) h1 h2 h3 h4 hnl h5 h6 (fun y hy => hym y (List.mem_reverse.1 hy))
  exact at_any g sy st A n k c.q L _ cl R _ d c.ys.reverse w hr or_.rd (by rw [List.length_reverse]; omega) a1 (by omega) a3 (by omega)

/-- The status of a machine, the index at which it halts, and the number of steps. -/
def nodeF (sy : Int) (rs : List R3) (N : Nat) : Int × Int × Int :=
  match runN sy rs N blankC with
  | none => (3, 0, 0)
  | some i => if haltC sy rs (itC sy rs blankC i) then ((if (freeF rs).length = 1 then 1 else 0), atI sy (itC sy rs blankC i).q (itC sy rs blankC i).ys.reverse, (i : Int)) else (2, 0, (i : Int))
theorem nodeF_full {sy : Int} {rs : List R3} {N i : Nat} (h : Full sy rs blankC N i) : nodeF sy rs N = (3, 0, 0) := by unfold nodeF; rw [runN_full h]
theorem nodeF_runs {sy : Int} {rs : List R3} {N i : Nat} (h : Ended sy rs blankC N i) (hh : haltC sy rs (itC sy rs blankC i) = false) : nodeF sy rs N = (2, 0, (i : Int)) := by unfold nodeF; rw [runN_ended h]; simp [hh]
theorem nodeF_last {sy : Int} {rs : List R3} {N i : Nat} (h : Ended sy rs blankC N i) (hh : haltC sy rs (itC sy rs blankC i) = true) (hf : (freeF rs).length = 1) : nodeF sy rs N = (1, atI sy (itC sy rs blankC i).q (itC sy rs blankC i).ys.reverse, (i : Int)) := by unfold nodeF; rw [runN_ended h]; simp [hh, hf]
theorem nodeF_open {sy : Int} {rs : List R3} {N i : Nat} (h : Ended sy rs blankC N i) (hh : haltC sy rs (itC sy rs blankC i) = true) (hf : ¬ (freeF rs).length = 1) : nodeF sy rs N = (0, atI sy (itC sy rs blankC i).q (itC sy rs blankC i).ys.reverse, (i : Int)) := by unfold nodeF; rw [runN_ended h]; simp [hh, hf]

def NodeP (w : World) (v : Int × Int × Int) (e : Ending) (w' : World) : Prop := e = .returned (.tuple #[.int .i64 v.1, .int .i64 v.2.1, .int .i64 v.2.2]) ∧ Below w.heap.size w w'
theorem nodeP {w w' : World} {v : Int × Int × Int} {a b c : Int} (h : v = (a, b, c)) (z : Below w.heap.size w w') : NodeP w v (.returned (.tuple #[.int .i64 a, .int .i64 b, .int .i64 c])) w' := by subst h; exact ⟨rfl, z⟩

/-- The four numbers that NodeStatus returns. -/
def nodeStatusF (sy st : Int) (rs : List R3) (b : Int) : Int × Int × Int × Int :=
  if codeF sy st rs blankC b = 0 then ((nodeF sy rs b.toNat).1, (nodeF sy rs b.toNat).2.1, (nodeF sy rs b.toNat).2.2, 0) else (0, 0, 0, codeF sy st rs blankC b)
def Node4 (w : World) (v : Int × Int × Int × Int) (e : Ending) (w' : World) : Prop := e = .returned (.tuple #[.int .i64 v.1, .int .i64 v.2.1, .int .i64 v.2.2.1, .int .i64 v.2.2.2]) ∧ Below w.heap.size w w'
theorem node4 {w w' : World} {v : Int × Int × Int × Int} {a b c d : Int} (h : v = (a, b, c, d)) (z : Below w.heap.size w w') : Node4 w v (.returned (.tuple #[.int .i64 a, .int .i64 b, .int .i64 c, .int .i64 d])) w' := by subst h; exact ⟨rfl, z⟩
theorem codeF_zero {sy st : Int} {rs : List R3} {c : Conf} {b : Int} (h : codeF sy st rs c b = 0) : goodC sy st rs c ∧ 1 ≤ b ∧ b ≤ 20000 := by
  unfold codeF at h
  split at h
  · rename_i h1
    split at h
    · rename_i h2
      unfold inB at h2
      simp at h2
      exact ⟨h1, h2.1, h2.2⟩
    · cases h
  · cases h

end Go.Proofs.Ytbpofkggoolmpaa

/-
  The observer 'counter': contracts of its methods.
-/
namespace Go.Proofs.Ytbpofkggoolmpaa
open Go.RowKit

theorem countM_config (g : Nat) (w : World) : (method 452 154 (.pointer (some ⟨g, 0, none⟩)) "loop.example/g01079/impl.config").run Try.prog w = .ok (319, .pointer (some ⟨g, 0, none⟩)) w := by kernel_rfl
theorem countM_step (g : Nat) (w : World) : (method 452 154 (.pointer (some ⟨g, 0, none⟩)) "loop.example/g01079/impl.step").run Try.prog w = .ok (320, .pointer (some ⟨g, 0, none⟩)) w := by kernel_rfl

/-- Numbers that are not negative, with their sum. -/
def SumL (xs : List Int) (n : Nat) (s : Int) : Prop := xs.length = n ∧ (∀ x ∈ xs, 0 ≤ x) ∧ xs.sum = s
theorem sum_nonneg {xs : List Int} (h : ∀ x ∈ xs, 0 ≤ x) : 0 ≤ xs.sum := by
  induction xs with
  | nil => simp
  | cons a t ih =>
    have h1 := h a List.mem_cons_self
    have h2 := ih fun x hx => h x (List.mem_cons_of_mem _ hx)
    rw [List.sum_cons]; omega
theorem mem_le_sum {xs : List Int} (h : ∀ x ∈ xs, 0 ≤ x) {y : Int} (hy : y ∈ xs) : y ≤ xs.sum := by
  induction xs with
  | nil => simp at hy
  | cons a t ih =>
    have h1 := h a List.mem_cons_self
    have ht := fun x hx => h x (List.mem_cons_of_mem a hx)
    have h2 := sum_nonneg ht
    rw [List.sum_cons]
    rcases List.mem_cons.1 hy with rfl | hy
    · omega
    · have := ih ht hy; omega
theorem SumL.inc {xs : List Int} {n : Nat} {s : Int} (h : SumL xs n s) {k : Nat} {x : Int} (hk : xs[k]? = some x) : SumL (xs.set k (x + 1)) n (s + 1) := by
  obtain ⟨h1, h2, h3⟩ := h
  refine ⟨by rw [List.length_set]; exact h1, fun y hy => ?_, by rw [sum_set hk, h3]; omega⟩
  have hx := h2 x (List.mem_of_getElem? hk)
  rcases List.mem_or_eq_of_mem_set hy with hy | rfl
  · exact h2 y hy
  · omega
theorem SumL.zeros (n : Nat) : SumL (List.replicate n 0) n 0 := by
  refine ⟨List.length_replicate, fun x hx => by rw [(List.mem_replicate.1 hx).2]; exact Int.le_refl _, ?_⟩
  induction n with
  | zero => rfl
  | succ n ih => rw [List.replicate_succ, List.sum_cons, ih]; rfl
/-- The observer's blocks: its struct b, its map mb, its rows sb and ub. -/
def CtX (b mb sb ub : Nat) : Nat → Prop := fun x => x = b ∨ x = mb ∨ x = sb ∨ x = ub
/-- The observer in memory beside a runner. -/
structure Ct (w0 : World) (b mb sb ub g : Nat) (sy st : Int) (A : Option Addr) (n k : Nat) (c : Conf) (N num : Nat) (f : Int → Nat) (ns nu : Nat) (xs us : List Int) (L : Option Addr) (cl : Nat) (R : Option Addr) (d : Nat) (W : World) : Prop where
  box : Blk W b 159 #[.map (some mb), .slice (some ⟨sb, 0, none⟩) ns ns, .slice (some ⟨ub, 0, none⟩) nu nu]
  map : IMap W mb N num f
  sts : Own W w0.heap.size 2 1 (some ⟨sb, 0, none⟩) ns ns (ints xs)
  rls : Own W w0.heap.size 2 1 (some ⟨ub, 0, none⟩) nu nu (ints us)
  rat : RunAt W g sy st A n k c.q L c.xs.reverse.length cl R c.ys.reverse.length d
  ol : Own W w0.heap.size 2 1 L c.xs.reverse.length cl (ints c.xs.reverse)
  or_ : Own W w0.heap.size 2 1 R c.ys.reverse.length d (ints c.ys.reverse)
  ap : ∀ x, blk L = some x → blk R ≠ some x
  xl : ∀ x, blk L = some x → ¬ CtX b mb sb ub x
  xr : ∀ x, blk R = some x → ¬ CtX b mb sb ub x
  low : Below w0.heap.size w0 W
  lob : w0.heap.size ≤ b
  lom : w0.heap.size ≤ mb
  xg : ¬ CtX b mb sb ub g
  bs : b ≠ mb ∧ b ≠ sb ∧ b ≠ ub ∧ mb ≠ sb ∧ mb ≠ ub ∧ sb ≠ ub
section
variable {w0 W W' : World} {b mb sb ub g : Nat} {sy st : Int} {A : Option Addr} {n k : Nat} {c : Conf} {N num : Nat} {f : Int → Nat} {ns nu : Nat} {xs us : List Int} {L : Option Addr} {cl : Nat} {R : Option Addr} {d : Nat}
theorem Ct.run (h : Ct w0 b mb sb ub g sy st A n k c N num f ns nu xs us L cl R d W) : RunC (CtX b mb sb ub) W w0.heap.size g sy st A n k c := ⟨L, cl, R, d, h.rat, h.ol, h.or_, h.ap, h.xl, h.xr⟩
theorem Ct.below (h : Ct w0 b mb sb ub g sy st A n k c N num f ns nu xs us L cl R d W) (z : Below W.heap.size W W') : Ct w0 b mb sb ub g sy st A n k c N num f ns nu xs us L cl R d W' :=
  ⟨h.box.below' z, h.map.below z, h.sts.below z, h.rls.below z, Blk.below' h.rat z, h.ol.below z, h.or_.below z, h.ap, h.xl, h.xr, h.low.trans (z.mono h.low.size), h.lob, h.lom, h.xg, h.bs⟩
theorem heap_set_other {W : World} {p : Addr} {v : Value} {j : Nat} (h : j ≠ p.block) : (W.setCell p v).heap[j]? = W.heap[j]? := Below.heap_setCell W p v j h
/-- One more in a row. -/
theorem Ct.setS (h : Ct w0 b mb sb ub g sy st A n k c N num f ns nu xs us L cl R d W) {j : Nat} (hj : j < xs.length) (v : Int) (hs : w0.heap.size ≤ sb) : Ct w0 b mb sb ub g sy st A n k c N num f ns nu (xs.set j v) us L cl R d (W.setCell ⟨sb, j, none⟩ (.int .i64 v)) := by
  rw [show j = 0 + j by omega]
  obtain ⟨e1, e2, e3, e4, e5, e6⟩ := h.bs
  have hx : CtX b mb sb ub sb := .inr (.inr (.inl rfl))
  refine ⟨h.box.far (p := ⟨sb, 0 + j, none⟩) e2 _, h.map.keep (heap_set_other (p := ⟨sb, 0 + j, none⟩) e4), ?_, h.rls.set_far (fun e => e6 (by cases e; rfl)) _, Blk.far h.rat (p := ⟨sb, 0 + j, none⟩) (fun e => h.xg (by rw [e]; exact hx)) _, h.ol.set_far (fun e => h.xl sb e hx) _, h.or_.set_far (fun e => h.xr sb e hx) _, h.ap, h.xl, h.xr, h.low.setCell (p := ⟨sb, 0 + j, none⟩) hs _, h.lob, h.lom, h.xg, h.bs⟩
  have := h.sts.set_ (k := j) (by simpa [ints] using hj) (.int .i64 v)
  simpa [ints, List.map_set] using this
theorem Ct.setU (h : Ct w0 b mb sb ub g sy st A n k c N num f ns nu xs us L cl R d W) {j : Nat} (hj : j < us.length) (v : Int) (hs : w0.heap.size ≤ ub) : Ct w0 b mb sb ub g sy st A n k c N num f ns nu xs (us.set j v) L cl R d (W.setCell ⟨ub, j, none⟩ (.int .i64 v)) := by
  rw [show j = 0 + j by omega]
  obtain ⟨e1, e2, e3, e4, e5, e6⟩ := h.bs
  have hx : CtX b mb sb ub ub := .inr (.inr (.inr rfl))
  refine ⟨h.box.far (p := ⟨ub, 0 + j, none⟩) e3 _, h.map.keep (heap_set_other (p := ⟨ub, 0 + j, none⟩) e5), h.sts.set_far (fun e => e6 (by cases e; rfl)) _, ?_, Blk.far h.rat (p := ⟨ub, 0 + j, none⟩) (fun e => h.xg (by rw [e]; exact hx)) _, h.ol.set_far (fun e => h.xl ub e hx) _, h.or_.set_far (fun e => h.xr ub e hx) _, h.ap, h.xl, h.xr, h.low.setCell (p := ⟨ub, 0 + j, none⟩) hs _, h.lob, h.lom, h.xg, h.bs⟩
  have := h.rls.set_ (k := j) (by simpa [ints] using hj) (.int .i64 v)
  simpa [ints, List.map_set] using this
theorem Ct.put {N' num' : Nat} {f' : Int → Nat} (h : Ct w0 b mb sb ub g sy st A n k c N num f ns nu xs us L cl R d W) (hm : IMap W' mb N' num' f') (hg : W.grownBy W' (some mb)) : Ct w0 b mb sb ub g sy st A n k c N' num' f' ns nu xs us L cl R d W' := by
  obtain ⟨e1, e2, e3, e4, e5, e6⟩ := h.bs
  have hx : CtX b mb sb ub mb := .inr (.inl rfl)
  have hgl : g < W.heap.size := Blk.lt h.rat
  refine ⟨(hg.block b h.box.lt (fun e => e1 (Option.some.inj e))).trans h.box, hm, h.sts.grown hg (fun x hx e => ?_), h.rls.grown hg (fun x hx e => ?_), (hg.block g hgl (fun e => h.xg (.inr (.inl (Option.some.inj e))))).trans h.rat, h.ol.grown hg (fun x hx' e => ?_), h.or_.grown hg (fun x hx' e => ?_), h.ap, h.xl, h.xr, ?_, h.lob, h.lom, h.xg, h.bs⟩
  · cases hx; exact e4 (by cases e; rfl)
  · cases hx; exact e5 (by cases e; rfl)
  · cases hx'; exact h.xl mb e hx
  · cases hx'; exact h.xr mb e hx
  · exact h.low.grown hg h.low.size (fun j hj => by cases hj; exact h.lom)
end
/-- The observer's data: what i configurations and i' steps have counted. -/
def CtD (w0 : World) (b mb sb ub : Nat) (sy : Int) (rs : List R3) (c : Conf) (ns nu i i' : Nat) (X : Nat → Prop) (W : World) : Prop :=
  ∃ (xs us : List Int), (∀ x, CtX b mb sb ub x → X x) ∧ w0.heap.size ≤ b ∧ w0.heap.size ≤ mb ∧ (b ≠ mb ∧ b ≠ sb ∧ b ≠ ub ∧ mb ≠ sb ∧ mb ≠ ub ∧ sb ≠ ub) ∧ Blk W b 159 #[.map (some mb), .slice (some ⟨sb, 0, none⟩) ns ns, .slice (some ⟨ub, 0, none⟩) nu nu] ∧ IMap W mb i (manyF sy rs c i) (cntF sy rs c i) ∧
    Own W w0.heap.size 2 1 (some ⟨sb, 0, none⟩) ns ns (ints xs) ∧ Own W w0.heap.size 2 1 (some ⟨ub, 0, none⟩) nu nu (ints us) ∧ SumL xs ns (i : Int) ∧ SumL us nu (i' : Int)
theorem CtD.st (w0 : World) (b mb sb ub : Nat) (sy : Int) (rs : List R3) (c : Conf) (ns nu i i' : Nat) : StF (CtD w0 b mb sb ub sy rs c ns nu i i') := by
  rintro X W W' ⟨xs, us, h1, h2, h3, h4, h5, h6, h7, h8, h9⟩ hf
  exact ⟨xs, us, h1, h2, h3, h4, h5.fr hf (h1 _ (.inl rfl)), h6.keep (hf.same mb (h1 _ (.inr (.inl rfl))) h6.lt), h7.fr hf (fun x hx => by cases hx; exact h1 _ (.inr (.inr (.inl rfl)))), h8.fr hf (fun x hx => by cases hx; exact h1 _ (.inr (.inr (.inr rfl)))), h9⟩
theorem FS.ct {w0 W : World} {b mb sb ub g : Nat} {sy st : Int} {A : Option Addr} {n k : Nat} {rs : List R3} {c c' : Conf} {ns nu i i' : Nat} (h : FS w0 g sy st A n k c' (CtD w0 b mb sb ub sy rs c ns nu i i') W) :
    ∃ xs us L cl R d, Ct w0 b mb sb ub g sy st A n k c' i (manyF sy rs c i) (cntF sy rs c i) ns nu xs us L cl R d W ∧ SumL xs ns (i : Int) ∧ SumL us nu (i' : Int) := by
  obtain ⟨X, hXg, hXb, hrun, hy, xs, us, h1, h2, h3, h4, h5, h6, h7, h8, h9⟩ := h
  obtain ⟨L, cl, R, d, e1, e2, e3, e4, e5, e6⟩ := hrun
  exact ⟨xs, us, L, cl, R, d, ⟨h5, h6, h7, h8, e1, e2, e3, e4, fun x hb hx => e5 x hb (h1 x hx), fun x hb hx => e6 x hb (h1 x hx), hy, h2, h3, fun h => hXg (h1 g h), h4⟩, h9⟩
theorem Ct.fs {w0 W : World} {b mb sb ub g : Nat} {sy st : Int} {A : Option Addr} {n k : Nat} {rs : List R3} {c c' : Conf} {ns nu i i' : Nat} {xs us : List Int} {L : Option Addr} {cl : Nat} {R : Option Addr} {d : Nat}
    (h : Ct w0 b mb sb ub g sy st A n k c' i (manyF sy rs c i) (cntF sy rs c i) ns nu xs us L cl R d W) (hs : SumL xs ns (i : Int)) (hu : SumL us nu (i' : Int)) : FS w0 g sy st A n k c' (CtD w0 b mb sb ub sy rs c ns nu i i') W := by
  refine ⟨CtX b mb sb ub, h.xg, fun x hx => ?_, h.run, h.low, xs, us, fun _ h => h, h.lob, h.lom, h.bs, h.box, h.map, h.sts, h.rls, hs, hu⟩
  rcases hx with rfl | rfl | rfl | rfl
  · exact h.box.lt
  · exact h.map.lt
  · exact h.sts.blk_lt _ rfl
  · exact h.rls.blk_lt _ rfl

set_option maxRecDepth 100000 in
set_option maxHeartbeats 4000000 in
theorem countConfig_any (w0 : World) (g : Nat) (sy st : Int) (A : Option Addr) (n k : Nat) (rs : List R3) (c0 : Conf) (b mb sb ub ns nu i : Nat) (W : World) (hgd : goodC sy st rs (itC sy rs c0 i)) (ha : Alive sy rs c0 i) (hg0 : goodC sy st rs c0) (hst : st ≤ (ns : Int)) (hi : i ≤ 100000) (hs : w0.heap.size ≤ sb)
    (hS : FS w0 g sy st A n k (itC sy rs c0 i) (CtD w0 b mb sb ub sy rs c0 ns nu i i) W) :
    Calls Try.prog 319 #[.pointer (some ⟨b, 0, none⟩), .pointer (some ⟨g, 0, none⟩), .int .i64 (posF sy rs c0 i)] W fun e W' => (∃ u, e = .returned u) ∧ FS w0 g sy st A n k (itC sy rs c0 i) (CtD w0 b mb sb ub sy rs c0 ns nu (i + 1) i) W' := by
  obtain ⟨xs, us, L, cl, R, d, hq, sx, su⟩ := hS.ct
  obtain ⟨h1, h2, h3, h4, hnl, h5, h6, hx2, hy2, hxm, hym, hrsv⟩ := conf_parts hgd
  have hpb := posF_bound hg0 i ha
  have hcl := cnt_le (sy := sy) (rs := rs) (c := c0) i (posF sy rs c0 i)
  have hms := many_step hg0 ha
  obtain ⟨q, hqq⟩ : ∃ q : Nat, (itC sy rs c0 i).q = (q : Int) := ⟨(itC sy rs c0 i).q.toNat, by omega⟩
  have hqn : q < ns := by omega
  obtain ⟨x, hx⟩ : ∃ x, xs[q]? = some x := ⟨_, List.getElem?_eq_getElem (by rw [sx.1]; exact hqn)⟩
  have hx0 := sx.2.1 x (List.mem_of_getElem? hx)
  have hx1 := mem_le_sum sx.2.1 (List.mem_of_getElem? hx)
  rw [sx.2.2] at hx1
  have HFIN : Hid (∀ (c' : Conf) (N num : Nat) (f : Int → Nat) (W' : World), c' = itC sy rs c0 i → N = i + 1 → num = manyF sy rs c0 (i + 1) → f = cntF sy rs c0 (i + 1) → Ct w0 b mb sb ub g sy st A n k c' N num f ns nu (xs.set q (x + 1)) us L cl R d W' → FS w0 g sy st A n k (itC sy rs c0 i) (CtD w0 b mb sb ub sy rs c0 ns nu (i + 1) i) W') := Lib.hid (fun c' N num f W' hc hN hn hf h => by
    subst hc hN hn hf
    exact h.fs (by have := sx.inc hx; rw [show ((i + 1 : Nat) : Int) = (i : Int) + 1 by omega]; exact this) su)
  have HCN : Hid ((fun p => cntF sy rs c0 i p + (if posF sy rs c0 i = p then 1 else 0)) = cntF sy rs c0 (i + 1)) := Lib.hid (by funext p; rfl)
  have hlk := hq.map.look (posF sy rs c0 i) (by omega) (by omega)
  obtain ⟨W1, hput, hm1, hg1⟩ := hq.map.put (by unfold maxLen; omega) (posF sy rs c0 i) (by omega) (by omega) (by omega)
  have hq1 := hq.put hm1 hg1
  have HXL : Hid (q < xs.length) := Lib.hid (by rw [sx.1]; exact hqn)
  have hsp : W1.cell? ⟨sb, q, none⟩ = some (.int .i64 x) := by
    rw [show q = 0 + q by omega]
    obtain ⟨_, h⟩ := hq1.sts.rd
    obtain ⟨b', o', e, hc⟩ := h (by omega)
    cases e
    have := hc q (by simpa [ints] using HXL.out)
    rw [this]
    simp only [ints, List.getElem_map]
    rw [List.getElem?_eq_getElem HXL.out] at hx
    rw [Option.some.inj hx]
  have HMS : Hid ((if cntF sy rs c0 i (posF sy rs c0 i) = 0 then manyF sy rs c0 i + 1 else manyF sy rs c0 i) = manyF sy rs c0 (i + 1)) := Lib.hid hms.symm
  rw [HMS.out, HCN.out] at hq1
  have hsz : W1.heap.size ≤ W1.heap.size := Nat.le_refl _
  have hfz : W1.frozen? ⟨sb, q, none⟩ = false := by
    obtain ⟨_, h⟩ := hq1.sts
    rcases h with ⟨h, _⟩ | ⟨b', o', cur, e, _, hh, _⟩
    · cases h
    · cases e; simp [World.frozen?, hh]
  clear hS hgd ha hg0 hst hpb hms hnl h1 h2 h3 h4 h5 h6 hx2 hy2 hxm hym hrsv hm1 hg1 HMS HCN hx sx su hsz
  have HF2 : Hid (∀ W', Ct w0 b mb sb ub g sy st A n k (itC sy rs c0 i) (i + 1) (manyF sy rs c0 (i + 1)) (cntF sy rs c0 (i + 1)) ns nu (xs.set q (x + 1)) us L cl R d W' → FS w0 g sy st A n k (itC sy rs c0 i) (CtD w0 b mb sb ub sy rs c0 ns nu (i + 1) i) W') := Lib.hid (fun W' h => HFIN.out _ _ _ _ W' rfl rfl rfl rfl h)
  clear HFIN
  have x0 : W.cell? ⟨b, 0, none⟩ = some (.map (some mb)) := hq.box.cell 0
  have KG : Hid (∀ W', Ct w0 b mb sb ub g sy st A n k (itC sy rs c0 i) (i + 1) (manyF sy rs c0 (i + 1)) (cntF sy rs c0 (i + 1)) ns nu xs us L cl R d W' → W'.cell? ⟨b, 1, none⟩ = some (.slice (some ⟨sb, 0, none⟩) ns ns) ∧ W'.cell? ⟨g, 3, none⟩ = some (.int .i64 (q : Int))) := Lib.hid (fun W' h => ⟨h.box.cell 1, by rw [← hqq]; exact h.rat.cell 3⟩)
  have KG2 : Hid (∀ W', Ct w0 b mb sb ub g sy st A n k (itC sy rs c0 i) (i + 1) (manyF sy rs c0 (i + 1)) (cntF sy rs c0 (i + 1)) ns nu (xs.set q (x + 1)) us L cl R d W' → W'.cell? ⟨b, 1, none⟩ = some (.slice (some ⟨sb, 0, none⟩) ns ns) ∧ W'.cell? ⟨g, 3, none⟩ = some (.int .i64 (q : Int))) := Lib.hid (fun W' h => ⟨h.box.cell 1, by rw [← hqq]; exact h.rat.cell 3⟩)
  clear hqq
  generalize posF sy rs c0 i = p at *
  generalize cntF sy rs c0 i p = cn at *
  generalize cntF sy rs c0 (i + 1) = f' at *
  generalize manyF sy rs c0 (i + 1) = num' at *
  have w1 : IntKind.i64.wrap ((cn : Int) + 1) = (cn : Int) + 1 := IntWalk.i64_in _ (by omega)
  have w2 : IntKind.i64.wrap (x + 1) = x + 1 := IntWalk.i64_in _ (by omega)
  have i1 : (0 : Int) ≤ (q : Int) := by omega
  have i2 : (q : Int) < (ns : Int) := by omega
  clear hq
  go_enter Try.func319, Try.ntmps319
  go_upto_region 1 with fail
  clear hlk hput x0
  refine wp_region_noPanic ?_
  refine wp_region_held_drew (S := (fun w' => w'.cell? ⟨b, 1, none⟩ = some (.slice (some ⟨sb, 0, none⟩) ns ns) ∧ w'.cell? ⟨g, 3, none⟩ = some (.int .i64 (q : Int)))) (by kernel_rfl) ?_ (fun hHeld => ?_)
  · exact KG.out _ (hq1.below (show Below W1.heap.size W1 W1.drew from below_drewN (Below.refl _ _) 1))
  replace hq1 := hq1.below (show Below W1.heap.size W1 W1.drew from below_drewN (Below.refl _ _) 1)
  have hsp : W1.drew.cell? ⟨sb, q, none⟩ = some (.int .i64 x) := hsp
  have hfz : W1.drew.frozen? ⟨sb, q, none⟩ = false := hfz
  generalize W1.drew = Wc at *
  refine wpAnyH_take (i := 0) (v := ?_) rfl (by kernel_rfl) (by kernel_rfl) (by kernel_rfl) (fun _ _ _ h => h) (Or.inl ⟨by rfl, ?_⟩) (by assumption) ?_
  rotate_left
  · intro w hSw
    try dsimp only at hSw
    obtain ⟨hs0_, hs1_⟩ := hSw
    go_simp
    try with_reducible rfl
  try simp only [Act.put, List.setIfInBounds_toArray]
  refine wpAnyH_take (i := 1) (v := ?_) rfl (by kernel_rfl) (by kernel_rfl) (by kernel_rfl) (fun _ _ _ h => h) (Or.inl ⟨by rfl, ?_⟩) (by assumption) ?_
  rotate_left
  · intro w hSw
    try dsimp only at hSw
    obtain ⟨hs0_, hs1_⟩ := hSw
    go_simp
    try with_reducible rfl
  try simp only [Act.put]
  refine wpAnyH_take (i := 2) (v := ?_) rfl (by kernel_rfl) (by kernel_rfl) (by kernel_rfl) (fun _ _ _ h => h) (Or.inl ⟨by rfl, ?_⟩) (by assumption) ?_
  rotate_left
  · intro w hSw
    try dsimp only at hSw
    obtain ⟨hs0_, hs1_⟩ := hSw
    go_simp
    try with_reducible rfl
  try simp only [Act.put]
  refine wpAnyH_take (i := 3) (v := ?_) rfl (by kernel_rfl) (by kernel_rfl) (by kernel_rfl) (fun _ _ _ h => h) (Or.inl ⟨by rfl, ?_⟩) (by assumption) ?_
  rotate_left
  · intro w hSw
    try dsimp only at hSw
    obtain ⟨hs0_, hs1_⟩ := hSw
    go_simp
    try with_reducible rfl
  try simp only [Act.put]
  refine wpAnyH_take (i := 4) (v := ?_) rfl (by kernel_rfl) (by kernel_rfl) (by kernel_rfl) (fun _ _ _ h => h) (Or.inl ⟨by rfl, ?_⟩) (by assumption) ?_
  rotate_left
  · intro w hSw
    try dsimp only at hSw
    obtain ⟨hs0_, hs1_⟩ := hSw
    go_simp
    try with_reducible rfl
  try simp only [Act.put]
  refine wpAnyH_take (i := 5) (v := ?_) rfl (by kernel_rfl) (by kernel_rfl) (by kernel_rfl) (fun _ _ _ h => h) (Or.inl ⟨by rfl, ?_⟩) (by assumption) ?_
  rotate_left
  · intro w hSw
    try dsimp only at hSw
    obtain ⟨hs0_, hs1_⟩ := hSw
    go_simp
    try with_reducible rfl
  try simp only [Act.put]
  refine wpAnyH_take (i := 6) (v := ?_) rfl (by kernel_rfl) (by kernel_rfl) (by kernel_rfl) (fun _ _ _ h => h) (Or.inl ⟨by rfl, ?_⟩) (by assumption) ?_
  rotate_left
  · intro w hSw
    try dsimp only at hSw
    obtain ⟨hs0_, hs1_⟩ := hSw
    go_simp
    try with_reducible rfl
  try simp only [Act.put]
  refine wpAnyH_take (i := 7) (v := ?_) rfl (by kernel_rfl) (by kernel_rfl) (by kernel_rfl) (fun _ _ _ h => h) (Or.inl ⟨by rfl, ?_⟩) (by assumption) ?_
  rotate_left
  · intro w hSw
    try dsimp only at hSw
    obtain ⟨hs0_, hs1_⟩ := hSw
    go_simp
    try with_reducible rfl
  try simp only [Act.put]
  refine wpAnyH_take (i := 8) (v := ?_) rfl (by kernel_rfl) (by kernel_rfl) (by kernel_rfl) (fun _ _ _ h => h) (Or.inl ⟨by rfl, ?_⟩) (by assumption) ?_
  rotate_left
  · intro w hSw
    try dsimp only at hSw
    obtain ⟨hs0_, hs1_⟩ := hSw
    go_simp
    try with_reducible rfl
  try simp only [Act.put]
  try simp only [putAll, markAll, dstAt, Act.put, List.getElem_toArray, List.getElem?_toArray, List.getElem_cons_zero, List.getElem_cons_succ, List.getElem?_cons_zero, List.getElem?_cons_succ, Option.bind_some, List.setIfInBounds_toArray, List.set_cons_zero, List.set_cons_succ]
  refine wpAnyH_ready (rs := [9]) (by kernel_rfl) (by simp) ?_
  refine AllReadyH.cons rfl (fun K hK => ?_) ?_
  · have cc := hsp
    go_simp
    clear cc
    refine hK.out _ _ ?_ (fun hHeld => ?_)
    · first | exact KG2.out _ hqF | exact KG.out _ hq1
    clear hK K
    try simp only [Act.put, List.setIfInBounds_toArray, List.set_cons_zero, List.set_cons_succ]
    refine wpAnyH_take (i := 10) (v := ?_) rfl (by kernel_rfl) (by kernel_rfl) (by kernel_rfl) (fun _ _ _ h => h) (Or.inl ⟨by rfl, ?_⟩) (by assumption) ?_
    rotate_left
    · intro w hSw
      try dsimp only at hSw
      obtain ⟨hs0_, hs1_⟩ := hSw
      go_simp
      try with_reducible rfl
    try simp only [Act.put, List.setIfInBounds_toArray]
    refine wpAnyH_take (i := 11) (v := ?_) rfl (by kernel_rfl) (by kernel_rfl) (by kernel_rfl) (fun _ _ _ h => h) (Or.inl ⟨by rfl, ?_⟩) (by assumption) ?_
    rotate_left
    · intro w hSw
      try dsimp only at hSw
      obtain ⟨hs0_, hs1_⟩ := hSw
      go_simp
      try with_reducible rfl
    try simp only [Act.put]
    try simp only [putAll, markAll, dstAt, Act.put, List.getElem_toArray, List.getElem?_toArray, List.getElem_cons_zero, List.getElem_cons_succ, List.getElem?_cons_zero, List.getElem?_cons_succ, Option.bind_some, List.setIfInBounds_toArray, List.set_cons_zero, List.set_cons_succ]
    refine wpAnyH_ready (rs := [12]) (by kernel_rfl) (by simp) ?_
    refine AllReadyH.cons rfl (fun K hK => ?_) ?_
    · have cc := hsp
      have ff := hfz
      go_simp
      clear cc ff
      have hqF := hq1.setS HXL.out (x + 1) hs
      refine hK.out _ _ ?_ (fun hHeld => ?_)
      · first | exact KG2.out _ hqF | exact KG.out _ hq1
      clear hK K
      try simp only [Act.put, List.setIfInBounds_toArray]
      refine wpAnyH_done (by kernel_rfl) ?_ _
      refine NoPanic.normal ?_
      go_wp2_with fail
      exact bodyPost_end (results_none rfl _ _ _) rfl ⟨⟨_, rfl⟩, HF2.out _ hqF⟩
    exact AllReadyH.nil
  exact AllReadyH.nil

set_option maxRecDepth 100000 in
set_option maxHeartbeats 4000000 in
theorem countStep_any (w0 : World) (g : Nat) (sy st : Int) (A : Option Addr) (n k : Nat) (rs : List R3) (c0 : Conf) (b mb sb ub ns nu i : Nat) (p : Int) (r : R3) (W : World) (hgd : goodC sy st rs (itC sy rs c0 i)) (hnu : rs.length = nu) (hi : i ≤ 100000) (hs : w0.heap.size ≤ ub)
    (hS : FS w0 g sy st A n k (itC sy rs c0 i) (CtD w0 b mb sb ub sy rs c0 ns nu (i + 1) i) W) :
    Calls Try.prog 320 #[.pointer (some ⟨b, 0, none⟩), .pointer (some ⟨g, 0, none⟩), .int .i64 p, .agg #[.int .i64 r.a, .int .i64 r.b, .int .i64 r.c]] W fun e W' => (∃ u, e = .returned u) ∧ FS w0 g sy st A n k (itC sy rs c0 i) (CtD w0 b mb sb ub sy rs c0 ns nu (i + 1) (i + 1)) W' ∧ ∀ x cs, Blk W x 229 cs → Blk W' x 229 cs := by
  obtain ⟨xs, us, L, cl, R, d, hq, sx, su⟩ := hS.ct
  obtain ⟨h1, h2, h3, h4, hnl, h5, h6, hx2, hy2, hxm, hym, hrsv⟩ := conf_parts hgd
  obtain ⟨a1, a2, a3, a4, idx, hidx, hlt⟩ := at_parts (ys := (itC sy rs c0 i).ys.reverse) h1 h2 h3 h4 hnl h5 h6 (fun y hy => hym y (List.mem_reverse.1 hy))
  have hqn : idx < nu := by rw [← hnu]; exact hlt
  obtain ⟨x, hx⟩ : ∃ x, us[idx]? = some x := ⟨_, List.getElem?_eq_getElem (by rw [su.1]; exact hqn)⟩
  have hx0 := su.2.1 x (List.mem_of_getElem? hx)
  have hx1 := mem_le_sum su.2.1 (List.mem_of_getElem? hx)
  rw [su.2.2] at hx1
  have HAT := Lib.hid (fun W' (h : Ct w0 b mb sb ub g sy st A n k (itC sy rs c0 i) (i + 1) (manyF sy rs c0 (i + 1)) (cntF sy rs c0 (i + 1)) ns nu xs us L cl R d W') => at_c h.run hgd)
  rw [hidx] at HAT
  have HFIN : Hid (∀ W', Ct w0 b mb sb ub g sy st A n k (itC sy rs c0 i) (i + 1) (manyF sy rs c0 (i + 1)) (cntF sy rs c0 (i + 1)) ns nu xs (us.set idx (x + 1)) L cl R d W' → FS w0 g sy st A n k (itC sy rs c0 i) (CtD w0 b mb sb ub sy rs c0 ns nu (i + 1) (i + 1)) W') := Lib.hid (fun W' h => h.fs (by exact_mod_cast sx) (by have := su.inc hx; exact_mod_cast this))
  have HXL : Hid (idx < us.length) := Lib.hid (by rw [su.1]; exact hqn)
  clear hS hgd hnl h1 h2 h3 h4 h5 h6 hx2 hy2 hxm hym hrsv hidx a1 a2 a3 a4 hlt
  have hbl := hq.box.lt
  obtain ⟨W1, hW_⟩ : ∃ W_, W_ = W.alloc (.cells #[.int .i64 r.a, .int .i64 r.b, .int .i64 r.c] 229) := ⟨_, rfl⟩
  have bR : Blk W1 W.heap.size 229 #[.int .i64 r.a, .int .i64 r.b, .int .i64 r.c] := by rw [hW_]; exact Blk.new W _ _
  have z1 : Below W.heap.size W W1 := by rw [hW_]; exact (Below.refl _ _).alloc (Nat.le_refl _) _
  have HW1 := Lib.hid hW_
  clear hW_
  have HK1 : Hid (∀ y cs, Blk W y 229 cs → y ≠ ub ∧ Blk W1 y 229 cs) := Lib.hid (fun y cs h => ⟨fun e => by
    subst e
    obtain ⟨_, hh⟩ := hq.rls
    rcases hh with ⟨hh, _⟩ | ⟨b', o', cur, e, _, hh, _⟩
    · cases hh
    · cases e
      have := Eq.trans (Eq.symm hh) h
      simp at this, h.below' z1⟩)
  replace hq := hq.below z1
  clear z1 bR
  have KG : Hid (∀ us W', Ct w0 b mb sb ub g sy st A n k (itC sy rs c0 i) (i + 1) (manyF sy rs c0 (i + 1)) (cntF sy rs c0 (i + 1)) ns nu xs us L cl R d W' → W'.cell? ⟨b, 2, none⟩ = some (.slice (some ⟨ub, 0, none⟩) nu nu)) := Lib.hid (fun us W' h => h.box.cell 2)
  have KU : Hid (∀ W', Ct w0 b mb sb ub g sy st A n k (itC sy rs c0 i) (i + 1) (manyF sy rs c0 (i + 1)) (cntF sy rs c0 (i + 1)) ns nu xs us L cl R d W' → W'.cell? ⟨ub, idx, none⟩ = some (.int .i64 x) ∧ W'.frozen? ⟨ub, idx, none⟩ = false) := Lib.hid (fun W' h => by
    constructor
    · rw [show idx = 0 + idx by omega]
      obtain ⟨_, hh⟩ := h.rls.rd
      obtain ⟨b', o', e, hc⟩ := hh (by omega)
      cases e
      have := hc idx (by simpa [ints] using HXL.out)
      rw [this]
      simp only [ints, List.getElem_map]
      rw [List.getElem?_eq_getElem HXL.out] at hx
      rw [Option.some.inj hx]
    · obtain ⟨_, hh⟩ := h.rls
      rcases hh with ⟨hh, _⟩ | ⟨b', o', cur, e, _, hh, _⟩
      · cases hh
      · cases e; simp [World.frozen?, hh])
  clear hx sx su hnu
  generalize itC sy rs c0 i = cc at *
  generalize cntF sy rs c0 (i + 1) = f' at *
  generalize manyF sy rs c0 (i + 1) = num' at *
  have w2 : IntKind.i64.wrap (x + 1) = x + 1 := IntWalk.i64_in _ (by omega)
  have i1 : (0 : Int) ≤ (idx : Int) := by omega
  have i2 : (idx : Int) < (nu : Int) := by omega
  go_enter Try.func320, Try.ntmps320
  go_upto_region 1 with fail
  rw [← HW1.out]
  refine wp_region_noPanic ?_
  refine wp_region_held_drew (S := (fun w' => w'.cell? ⟨b, 2, none⟩ = some (.slice (some ⟨ub, 0, none⟩) nu nu))) (by kernel_rfl) ?_ (fun hHeld => ?_)
  · exact KG.out _ _ (hq.below (show Below W1.heap.size W1 W1.drew from below_drewN (Below.refl _ _) 1))
  replace hq := hq.below (show Below W1.heap.size W1 W1.drew from below_drewN (Below.refl _ _) 1)
  replace HK1 : Hid (∀ y cs, Blk W y 229 cs → y ≠ ub ∧ Blk W1.drew y 229 cs) := Lib.hid (fun y cs h => ⟨(HK1.out y cs h).1, (HK1.out y cs h).2.below' (show Below W1.heap.size W1 W1.drew from below_drewN (Below.refl _ _) 1)⟩)
  generalize W1.drew = Wc at *
  refine wpAnyH_take (i := 0) (v := ?_) rfl (by kernel_rfl) (by kernel_rfl) (by kernel_rfl) (fun _ _ _ h => h) (Or.inl ⟨by rfl, ?_⟩) (by assumption) ?_
  rotate_left
  · intro w hSw
    try dsimp only at hSw
    go_simp
    try with_reducible rfl
  try simp only [Act.put, List.setIfInBounds_toArray]
  refine wpAnyH_take (i := 1) (v := ?_) rfl (by kernel_rfl) (by kernel_rfl) (by kernel_rfl) (fun _ _ _ h => h) (Or.inl ⟨by rfl, ?_⟩) (by assumption) ?_
  rotate_left
  · intro w hSw
    try dsimp only at hSw
    go_simp
    try with_reducible rfl
  try simp only [Act.put]
  refine wpAnyH_take (i := 2) (v := ?_) rfl (by kernel_rfl) (by kernel_rfl) (by kernel_rfl) (fun _ _ _ h => h) (Or.inl ⟨by rfl, ?_⟩) (by assumption) ?_
  rotate_left
  · intro w hSw
    try dsimp only at hSw
    go_simp
    try with_reducible rfl
  try simp only [Act.put]
  refine wpAnyH_take (i := 3) (v := ?_) rfl (by kernel_rfl) (by kernel_rfl) (by kernel_rfl) (fun _ _ _ h => h) (Or.inl ⟨by rfl, ?_⟩) (by assumption) ?_
  rotate_left
  · intro w hSw
    try dsimp only at hSw
    go_simp
    try with_reducible rfl
  try simp only [Act.put]
  refine wpAnyH_take (i := 4) (v := ?_) rfl (by kernel_rfl) (by kernel_rfl) (by kernel_rfl) (fun _ _ _ h => h) (Or.inl ⟨by rfl, ?_⟩) (by assumption) ?_
  rotate_left
  · intro w hSw
    try dsimp only at hSw
    go_simp
    try with_reducible rfl
  try simp only [Act.put]
  try simp only [putAll, markAll, dstAt, Act.put, List.getElem_toArray, List.getElem?_toArray, List.getElem_cons_zero, List.getElem_cons_succ, List.getElem?_cons_zero, List.getElem?_cons_succ, Option.bind_some, List.setIfInBounds_toArray, List.set_cons_zero, List.set_cons_succ]
  refine wpAnyH_ready (rs := [5]) (by kernel_rfl) (by simp) ?_
  refine AllReadyH.cons rfl (fun K hK => ?_) ?_
  · go_simp
    refine (HAT.out _ hq).mono ?_
    rintro e wc_ ⟨rfl, nq, rfl⟩
    replace hq := hq.below (show Below Wc.heap.size Wc (Wc.drewN nq) from below_drewN (Below.refl _ _) _)
    replace HK1 : Hid (∀ y cs, Blk W y 229 cs → y ≠ ub ∧ Blk (Wc.drewN nq) y 229 cs) := Lib.hid (fun y cs h => ⟨(HK1.out y cs h).1, (HK1.out y cs h).2.below' (show Below Wc.heap.size Wc (Wc.drewN nq) from below_drewN (Below.refl _ _) _)⟩)
    generalize Wc.drewN nq = Wd at *
    refine hK.out _ _ ?_ (fun hHeld => ?_)
    · first | exact KG.out _ _ hqF | exact KG.out _ _ hq
    clear hK K
    try simp only [Act.put, List.setIfInBounds_toArray, List.set_cons_zero, List.set_cons_succ]
    refine wpAnyH_take (i := 6) (v := ?_) rfl (by kernel_rfl) (by kernel_rfl) (by kernel_rfl) (fun _ _ _ h => h) (Or.inl ⟨by rfl, ?_⟩) (by assumption) ?_
    rotate_left
    · intro w hSw
      try dsimp only at hSw
      go_simp
      try with_reducible rfl
    try simp only [Act.put, List.setIfInBounds_toArray]
    try simp only [putAll, markAll, dstAt, Act.put, List.getElem_toArray, List.getElem?_toArray, List.getElem_cons_zero, List.getElem_cons_succ, List.getElem?_cons_zero, List.getElem?_cons_succ, Option.bind_some, List.setIfInBounds_toArray, List.set_cons_zero, List.set_cons_succ]
    refine wpAnyH_ready (rs := [7]) (by kernel_rfl) (by simp) ?_
    refine AllReadyH.cons rfl (fun K hK => ?_) ?_
    · have cc1 := (KU.out _ hq).1
      go_simp
      clear cc1
      refine hK.out _ _ ?_ (fun hHeld => ?_)
      · first | exact KG.out _ _ hqF | exact KG.out _ _ hq
      clear hK K
      try simp only [Act.put, List.setIfInBounds_toArray, List.set_cons_zero, List.set_cons_succ]
      refine wpAnyH_take (i := 8) (v := ?_) rfl (by kernel_rfl) (by kernel_rfl) (by kernel_rfl) (fun _ _ _ h => h) (Or.inl ⟨by rfl, ?_⟩) (by assumption) ?_
      rotate_left
      · intro w hSw
        try dsimp only at hSw
        go_simp
        try with_reducible rfl
      try simp only [Act.put, List.setIfInBounds_toArray]
      refine wpAnyH_take (i := 9) (v := ?_) rfl (by kernel_rfl) (by kernel_rfl) (by kernel_rfl) (fun _ _ _ h => h) (Or.inl ⟨by rfl, ?_⟩) (by assumption) ?_
      rotate_left
      · intro w hSw
        try dsimp only at hSw
        go_simp
        try with_reducible rfl
      try simp only [Act.put]
      try simp only [putAll, markAll, dstAt, Act.put, List.getElem_toArray, List.getElem?_toArray, List.getElem_cons_zero, List.getElem_cons_succ, List.getElem?_cons_zero, List.getElem?_cons_succ, Option.bind_some, List.setIfInBounds_toArray, List.set_cons_zero, List.set_cons_succ]
      refine wpAnyH_ready (rs := [10]) (by kernel_rfl) (by simp) ?_
      refine AllReadyH.cons rfl (fun K hK => ?_) ?_
      · have cc1 := (KU.out _ hq).1
        have ff := (KU.out _ hq).2
        go_simp
        clear cc1 ff
        have hqF := hq.setU HXL.out (x + 1) hs
        refine hK.out _ _ ?_ (fun hHeld => ?_)
        · first | exact KG.out _ _ hqF | exact KG.out _ _ hq
        clear hK K
        try simp only [Act.put, List.setIfInBounds_toArray]
        refine wpAnyH_done (by kernel_rfl) ?_ _
        refine NoPanic.normal ?_
        go_wp2_with fail
        exact bodyPost_end (results_none rfl _ _ _) rfl ⟨⟨_, rfl⟩, HFIN.out _ hqF, fun y cs h => (HK1.out y cs h).2.far (p := ⟨ub, idx, none⟩) (HK1.out y cs h).1 _⟩
      exact AllReadyH.nil
    exact AllReadyH.nil
  exact AllReadyH.nil
end Go.Proofs.Ytbpofkggoolmpaa
