/-
  Contracts of impl's runner in the words of a configuration: halts, step.
-/
import Derived.Test.YthipbeggaeogcaaMachW
import Derived.Test.YthipbeggaeogcaaIter
namespace Go.Proofs.Ythipbeggaeogcaa
open Go.RowKit

/-- A runner that stands at a configuration, apart from the blocks of X. -/
def RunC (X : Nat → Prop) (w : World) (lo g : Nat) (sy st : Int) (A : Option Addr) (n k : Nat) (c : Conf) : Prop := SidesX X w lo g sy st A n k c.q c.xs.reverse c.ys.reverse

theorem halts_c {X : Nat → Prop} {w : World} {lo g : Nat} {sy st : Int} {A : Option Addr} {n k : Nat} {rs : List R3} {c : Conf} (hs : RunC X w lo g sy st A n k c) (hrs : S3 w A n rs) (hg : goodC sy st rs c) (hn : n ≤ 1048576) :
    Calls Try.prog 207 #[.pointer (some ⟨g, 0, none⟩)] w fun e w' => e = .returned (.bool (haltC sy rs c)) ∧ Below w.heap.size w w' := by
  obtain ⟨L, cl, R, d, hr, ol, or_, _⟩ := hs
  obtain ⟨h1, h2, h3, h4, hnl, h5, h6, hx2, hy2, hxm, hym, hrsv⟩ := conf_parts hg
  obtain ⟨a1, a2, a3, a4, idx, hidx, hlt⟩ := at_parts (ys := c.ys.reverse) h1 h2 h3 h4 hnl h5 h6 (fun y hy => hym y (List.mem_reverse.1 hy))
  have hget := ruleOf_get (rs := rs) (ys := c.ys) hidx hlt
  have hl : c.ys.reverse.length ≤ 1048576 := by rw [List.length_reverse]; omega
  have hln : rs.length = n := hrs.len
  exact halts_any g sy st A n k rs c.q L _ cl R _ d c.ys.reverse idx (ruleOf sy rs c.q c.ys) w hr hrs or_.rd hl a1 (by omega) a3 (by omega) (Lib.hid hidx) (by omega) (Lib.hid hget) hn

def StepC (X : Nat → Prop) (w w0 : World) (g : Nat) (sy st : Int) (A : Option Addr) (n k : Nat) (rs : List R3) (c : Conf) (e : Ending) (w' : World) : Prop :=
  e = .returned (.bool (roomC (nextC sy rs c))) ∧ RunC X w' w0.heap.size g sy st A n k (nextC sy rs c) ∧ Below w0.heap.size w0 w' ∧ Fr X w w' ∧ KeepsOthers w w'

theorem isCells_own {w : World} {lo s n c b : Nat} {e : TypeId} {A : Option Addr} {cs : List Value} (h : Own w lo e s A n c cs) (hb : blk A = some b) : ¬ ∃ o : Obj, w.heap[b]? = some o ∧ o.isCells = false := by
  rintro ⟨o, ho, hc⟩
  rcases h.2 with ⟨rfl, _⟩ | ⟨b', off, cur, rfl, _, hg, _⟩
  · simp [blk] at hb
  · simp [blk] at hb; subst hb
    rw [hg] at ho; cases ho; cases hc

theorem step_c {X : Nat → Prop} {w w0 : World} {g : Nat} {sy st : Int} {A : Option Addr} {n k : Nat} {rs : List R3} {c : Conf} (hs : RunC X w w0.heap.size g sy st A n k c) (hXg : ¬ X g) (hXt : ∀ b, X b → b < w.heap.size) (hrs : S3 w0 A n rs) (hb0 : Below w0.heap.size w0 w) (hg0 : w0.heap.size ≤ g) (hg : goodC sy st rs c) (hn : n ≤ 1048576) :
    Calls Try.prog 214 #[.pointer (some ⟨g, 0, none⟩)] w (StepC X w w0 g sy st A n k rs c) := by
  obtain ⟨L, cl, R, d, hr, ol, or_, hap, hXl, hXr⟩ := hs
  obtain ⟨h1, h2, h3, h4, hnl, h5, h6, hx2, hy2, hxm, hym, hrsv⟩ := conf_parts hg
  obtain ⟨a1, a2, a3, a4, idx, hidx, hlt⟩ := at_parts (ys := c.ys.reverse) h1 h2 h3 h4 hnl h5 h6 (fun y hy => hym y (List.mem_reverse.1 hy))
  have hget := ruleOf_get (rs := rs) (ys := c.ys) hidx hlt
  have hln : rs.length = n := hrs.len
  refine (step_x (fun b => X b ∨ ∃ o : Obj, w.heap[b]? = some o ∧ o.isCells = false) w0 g sy st A n k rs c.q c.xs.reverse c.ys.reverse idx (ruleOf sy rs c.q c.ys) w
    ⟨L, cl, R, d, hr, ol, or_, hap, fun b hb h => h.elim (hXl b hb) (isCells_own ol hb), fun b hb h => h.elim (hXr b hb) (isCells_own or_ hb)⟩
    (Lib.hid (fun h => h.elim hXg (fun ⟨o, ho, hc⟩ => by rw [show w.heap[g]? = _ from hr] at ho; cases ho; cases hc)))
    (Lib.hid (fun b h => h.elim (hXt b) (fun ⟨o, ho, _⟩ => (Array.getElem?_eq_some_iff.1 ho).1)))
    hrs hb0 hg0 (by rw [List.length_reverse]; omega) (by rw [List.length_reverse]; omega) a1 (by omega) a3 (by omega) (Lib.hid hidx) (by omega) (Lib.hid hget) hn).mono ?_
  rintro e w' ⟨he, ⟨L', cl', R', d', hr', ol', or', hap', hXl', hXr'⟩, hz, hf⟩
  refine ⟨?_, ⟨L', cl', R', d', ?_, ?_, ?_, hap', fun b hb h => hXl' b hb (.inl h), fun b hb h => hXr' b hb (.inl h)⟩, hz, ⟨hf.size, fun b hb hl => hf.same b (.inl hb) hl⟩, ⟨hf.size, fun k o hk ho => (hf.same k (.inr ⟨o, hk, ho⟩) (Array.getElem?_eq_some_iff.1 hk).1).trans hk⟩⟩
  · rw [he]
    refine ret_bool ?_
    unfold roomC nextC stepC roomB
    simp
  · simpa [nextC, stepC] using hr'
  · simpa [nextC, stepC] using ol'
  · simpa [nextC, stepC] using or'

theorem Own.fr {X : Nat → Prop} {w w' : World} {A : Option Addr} {n c s lo : Nat} {e : TypeId} {cs : List Value} (h : Own w lo e s A n c cs) (hf : Fr X w w') (hX : ∀ b, blk A = some b → X b) : Own w' lo e s A n c cs :=
  h.kept (fun b hb _ hlt => hf.same b (hX b hb) hlt)
theorem Blk.fr {X : Nat → Prop} {w w' : World} {g : Nat} {t : TypeId} {cs : Array Value} (h : Blk w g t cs) (hf : Fr X w w') (hX : X g) : Blk w' g t cs := (hf.same g hX h.lt).trans h
theorem RunC.below {X : Nat → Prop} {w w' : World} {lo g : Nat} {sy st : Int} {A : Option Addr} {n k : Nat} {c : Conf} (h : RunC X w lo g sy st A n k c) (z : Below w.heap.size w w') : RunC X w' lo g sy st A n k c := by
  obtain ⟨L, cl, R, d, hr, ol, or_, hap, hXl, hXr⟩ := h
  exact ⟨L, cl, R, d, Blk.below' hr z, ol.below z, or_.below z, hap, hXl, hXr⟩
theorem keeps_below {w w' : World} (z : Below w.heap.size w w') : KeepsOthers w w' := ⟨z.size, fun k _ hk _ => (z.block k (Array.getElem?_eq_some_iff.1 hk).1).trans hk⟩
-- a turn of a block that holds no cells
theorem put_cells {W : World} {l b : Nat} {o o' : Obj} {cur : Array Value} {t : TypeId} {f : Nat × Nat} (hl : W.heap[l]? = some o) (ho : o.isCells = false) (hb : W.heap[b]? = some (.cells cur t f)) : (W.putObj l o').heap[b]? = some (.cells cur t f) := by
  refine (World.putObj_heap_other ?_).trans hb
  rintro rfl
  rw [hb] at hl; cases hl; cases ho
theorem Blk.put {W : World} {l g : Nat} {o : Obj} {t : TypeId} {cs : Array Value} (h : Blk W g t cs) (o' : Obj) (hl : W.heap[l]? = some o) (ho : o.isCells = false) : Blk (W.putObj l o') g t cs := put_cells hl ho h
theorem Own.put {W : World} {l : Nat} {o : Obj} {A : Option Addr} {n c s lo : Nat} {e : TypeId} {cs : List Value} (h : Own W lo e s A n c cs) (o' : Obj) (hl : W.heap[l]? = some o) (ho : o.isCells = false) : Own (W.putObj l o') lo e s A n c cs := by
  rcases h.2 with ⟨rfl, h1, h2⟩ | ⟨b, off, cur, rfl, h1, hg, h2⟩
  · exact ⟨h.1, .inl ⟨rfl, h1, h2⟩⟩
  · exact ⟨h.1, .inr ⟨b, off, cur, rfl, h1, put_cells hl ho hg, h2⟩⟩
theorem RunC.put {X : Nat → Prop} {W : World} {l lo g : Nat} {sy st : Int} {A : Option Addr} {n k : Nat} {c : Conf} {o : Obj} (h : RunC X W lo g sy st A n k c) (o' : Obj) (hl : W.heap[l]? = some o) (ho : o.isCells = false) : RunC X (W.putObj l o') lo g sy st A n k c := by
  obtain ⟨L, cl, R, d, hr, ol, or_, hap, hXl, hXr⟩ := h
  exact ⟨L, cl, R, d, Blk.put hr o' hl ho, ol.put o' hl ho, or_.put o' hl ho, hap, hXl, hXr⟩
theorem below_put {W w : World} {B l : Nat} {o : Obj} (h : Below B w W) (hB : B ≤ l) (o' : Obj) (hl : W.heap[l]? = some o) : Below B w (W.putObj l o') :=
  h.trans ((Below.refl B W).grown (grownBy_putObj' W l o') (by have := (Array.getElem?_eq_some_iff.1 hl).1; omega) (fun k e => by cases e; omega))
theorem fr_put {X : Nat → Prop} {W : World} {l : Nat} {o : Obj} (o' : Obj) (hX : ∀ b, X b → ∃ o : Obj, W.heap[b]? = some o ∧ o.isCells = true) (hl : W.heap[l]? = some o) (ho : o.isCells = false) : Fr X W (W.putObj l o') :=
  ⟨by simp, fun b hb _ => World.putObj_heap_other (by rintro rfl; obtain ⟨o2, h2, h3⟩ := hX _ hb; rw [hl] at h2; cases h2; rw [ho] at h3; cases h3)⟩
end Go.Proofs.Ythipbeggaeogcaa
