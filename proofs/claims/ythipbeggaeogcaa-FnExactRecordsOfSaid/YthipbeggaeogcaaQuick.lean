/-
  The observer 'quick': positions of the head and records; contract of its method config.
-/
import Derived.Test.YthipbeggaeogcaaFollow
import Derived.Test.YthipbeggaeogcaaRecs
namespace Go.Proofs.Ythipbeggaeogcaa
open Go.RowKit

theorem elRec : Elem Try.prog 182 194 5 72 (.agg #[.int .i64 0, .int .i64 0, .int .i64 0, .slice none 0 0, .slice none 0 0]) := ⟨Try.underlying182, by kernel_rfl, rfl, by decide⟩
/-- A record in memory: its configuration's sides are never read again. -/
structure Rq where
  s : Int
  d : Int
  q : Int
  L : Option Addr
  nl : Nat
  cl : Nat
  R : Option Addr
  nr : Nat
  cr : Nat
def Rq.cells (t : Rq) : List Value := [.int .i64 t.s, .int .i64 t.d, .int .i64 t.q, .slice t.L t.nl t.cl, .slice t.R t.nr t.cr]
def Rq.val (t : Rq) : Int × Int × Int := (t.s, t.d, t.q)
theorem Rq.cells_len (t : Rq) : t.cells.length = 5 := rfl
theorem Rq.one (ts : List Rq) : ∀ u ∈ ts.flatMap Rq.cells, u.oneCell' = true := by
  intro u hu
  simp only [List.mem_flatMap, Rq.cells, List.mem_cons, List.not_mem_nil, or_false] at hu
  obtain ⟨t, _, h | h | h | h | h⟩ := hu <;> subst h <;> rfl
theorem Rq.new (w : World) (t : Rq) : Rd (w.alloc (.cells #[.int .i64 t.s, .int .i64 t.d, .int .i64 t.q, .slice t.L t.nl t.cl, .slice t.R t.nr t.cr] 194)) 5 (some ⟨w.heap.size, 0, none⟩) 1 t.cells := by
  refine ⟨rfl, fun _ => ⟨_, 0, rfl, fun k hk => ?_⟩⟩
  rw [cell_of_row _ w.heap.size (0 + k) _ 194 (0, 0) (heap_alloc_new w _)]
  rw [Rq.cells_len] at hk
  match k, hk with
  | 0, _ => rfl
  | 1, _ => rfl
  | 2, _ => rfl
  | 3, _ => rfl
  | 4, _ => rfl
/-- The positions before the i-th configuration is seen. -/
def posTo (sy : Int) (rs : List R3) (c : Conf) (i : Nat) : List Int := (List.range i).map (posF sy rs c)
theorem posTo_next (sy : Int) (rs : List R3) (c : Conf) (i : Nat) : posTo sy rs c (i + 1) = posTo sy rs c i ++ [posF sy rs c i] := by simp [posTo, List.range_succ]
theorem posTo_len (sy : Int) (rs : List R3) (c : Conf) (i : Nat) : (posTo sy rs c i).length = i := by simp [posTo]
/-- The least and the greatest position, and the records. -/
def exF (sy : Int) (rs : List R3) (c : Conf) : Nat → Int × Int × List (Int × Int × Int)
  | 0 => (0, 0, [])
  | i + 1 =>
    if (exF sy rs c i).2.1 < posF sy rs c i then ((exF sy rs c i).1, posF sy rs c i, (exF sy rs c i).2.2 ++ [((i : Int), 1, (itC sy rs c i).q)])
    else if posF sy rs c i < (exF sy rs c i).1 then (posF sy rs c i, (exF sy rs c i).2.1, (exF sy rs c i).2.2 ++ [((i : Int), -1, (itC sy rs c i).q)])
    else exF sy rs c i
theorem exF_len (sy : Int) (rs : List R3) (c : Conf) (i : Nat) : (exF sy rs c i).2.2.length ≤ i := by
  induction i with
  | zero => simp [exF]
  | succ i ih =>
    unfold exF
    split
    · simp; omega
    · split
      · simp; omega
      · omega
/-- The observer in memory beside a runner. -/
structure QX (w0 : World) (b g : Nat) (sy st : Int) (A : Option Addr) (n k : Nat) (c : Conf) (i : Nat) (ps : List Int) (rq : List Rq) (l u : Int) (P : Option Addr) (pc : Nat) (R : Option Addr) (rc : Nat) (W : World) : Prop where
  box : Blk W b 186 #[.slice P i pc, .slice R rq.length rc, .int .i64 l, .int .i64 u]
  pos : Own W w0.heap.size 2 1 P i pc (ints ps)
  recs : Own W w0.heap.size 194 5 R rq.length rc (rq.flatMap Rq.cells)
  run : RunC (fun x => x = b ∨ blk P = some x ∨ blk R = some x) W w0.heap.size g sy st A n k c
  low : Below w0.heap.size w0 W
  lob : w0.heap.size ≤ b
section
variable {w0 W W' : World} {b g : Nat} {sy st : Int} {A : Option Addr} {n k : Nat} {c : Conf} {i : Nat} {ps : List Int} {rq : List Rq} {l u : Int} {P R : Option Addr} {pc rc : Nat}
theorem RunC.blk_ {X : Nat → Prop} {lo : Nat} (h : RunC X W lo g sy st A n k c) : ∃ cs, Blk W g 251 cs := by
  obtain ⟨L, cl, R, d, e1, _⟩ := h
  exact ⟨_, e1⟩
theorem QX.bg (h : QX w0 b g sy st A n k c i ps rq l u P pc R rc W) : b ≠ g := by
  obtain ⟨cs, hc⟩ := h.run.blk_
  intro e
  subst e
  have := Eq.trans (Eq.symm h.box) hc
  simp at this
theorem RunC.imp {X Y : Nat → Prop} {lo : Nat} (h : RunC X W lo g sy st A n k c) (hY : ∀ x, Y x → X x) : RunC Y W lo g sy st A n k c := by
  obtain ⟨L, cl, R, d, e1, e2, e3, e4, e5, e6⟩ := h
  exact ⟨L, cl, R, d, e1, e2, e3, e4, fun b hb h => e5 b hb (hY b h), fun b hb h => e6 b hb (hY b h)⟩
theorem QX.below (h : QX w0 b g sy st A n k c i ps rq l u P pc R rc W) (z : Below W.heap.size W W') : QX w0 b g sy st A n k c i ps rq l u P pc R rc W' :=
  ⟨h.box.below' z, h.pos.below z, h.recs.below z, h.run.below z, h.low.trans (z.mono h.low.size), h.lob⟩
/-- A store into the last two cells of the box. -/
theorem QX.setu (h : QX w0 b g sy st A n k c i ps rq l u P pc R rc W) (v : Int) : QX w0 b g sy st A n k c i ps rq l v P pc R rc (W.setCell ⟨b, 3, none⟩ (.int .i64 v)) :=
  ⟨h.box.set_ 3 _, h.pos.far (p := ⟨b, 3, none⟩) (h.box.apt h.pos (by decide)) _, h.recs.far (p := ⟨b, 3, none⟩) (h.box.apt h.recs (by decide)) _,
    by obtain ⟨cs, hc⟩ := h.run.blk_
       exact h.run.set (fun e => by
         rcases e with e | e | e
         · exact h.bg e.symm
         · exact hc.apt h.pos (by decide) e
         · exact hc.apt h.recs (by decide) e) (.inl rfl) _, h.low.setCell (p := ⟨b, 3, none⟩) h.lob _, h.lob⟩
theorem QX.setl (h : QX w0 b g sy st A n k c i ps rq l u P pc R rc W) (v : Int) : QX w0 b g sy st A n k c i ps rq v u P pc R rc (W.setCell ⟨b, 2, none⟩ (.int .i64 v)) :=
  ⟨h.box.set_ 2 _, h.pos.far (p := ⟨b, 2, none⟩) (h.box.apt h.pos (by decide)) _, h.recs.far (p := ⟨b, 2, none⟩) (h.box.apt h.recs (by decide)) _,
    by obtain ⟨cs, hc⟩ := h.run.blk_
       exact h.run.set (fun e => by
         rcases e with e | e | e
         · exact h.bg e.symm
         · exact hc.apt h.pos (by decide) e
         · exact hc.apt h.recs (by decide) e) (.inl rfl) _, h.low.setCell (p := ⟨b, 2, none⟩) h.lob _, h.lob⟩
theorem RunC.grown_rec {X : Nat → Prop} {lo m c2 : Nat} {cs : List Value} {A2 : Option Addr} (h : RunC X W lo g sy st A n k c) (hX : ∀ x, blk R = some x → X x) (ho : Own W lo 194 5 R m c2 cs) (hg : W.grownBy W' (blk R)) (hgn : blk A2 = blk R ∨ blk A2 = some W.heap.size) :
    RunC (fun x => X x ∧ x < W.heap.size ∨ blk A2 = some x) W' lo g sy st A n k c := by
  obtain ⟨cs', hc⟩ := h.blk_
  obtain ⟨L, cl, Q, d, e1, e2, e3, e4, e5, e6⟩ := h
  have hne : ∀ x, blk A2 = some x → X x ∨ x = W.heap.size := fun x hx => by
    rcases hgn with h | h
    · exact .inl (hX x (by rw [← h]; exact hx))
    · rw [h] at hx; exact .inr (Option.some.inj hx).symm
  refine ⟨L, cl, Q, d, ?_, e2.grown hg (fun x hx hb => e5 x hb (hX x hx)), e3.grown hg (fun x hx hb => e6 x hb (hX x hx)), e4, fun x hb h => ?_, fun x hb h => ?_⟩
  · exact (hg.block g hc.lt (fun e => hc.apt ho (by decide) e.symm)).trans e1
  · rcases h with ⟨h, _⟩ | h
    · exact e5 x hb h
    · rcases hne x h with h2 | h2
      · exact e5 x hb h2
      · have := e2.blk_lt x hb; omega
  · rcases h with ⟨h, _⟩ | h
    · exact e6 x hb h
    · rcases hne x h with h2 | h2
      · exact e6 x hb h2
      · have := e3.blk_lt x hb; omega
/-- A record more. -/
theorem QX.rec_ {A2 : Option Addr} {c2 : Nat} {t : Rq} (h : QX w0 b g sy st A n k c i ps rq l u P pc R rc W) (ho : Own W' w0.heap.size 194 5 A2 (rq.length + 1) c2 (rq.flatMap Rq.cells ++ t.cells)) (hg : W.grownBy W' (blk R)) (hgn : blk A2 = blk R ∨ blk A2 = some W.heap.size) :
    QX w0 b g sy st A n k c i ps (rq ++ [t]) l u P pc A2 c2 (W'.setCell ⟨b, 1, none⟩ (.slice A2 (rq.length + 1) c2)) := by
  have hbx : Blk W' b 186 #[.slice P i pc, .slice R rq.length rc, .int .i64 l, .int .i64 u] := h.box.grown h.recs hg (by decide)
  have hps : Own W' w0.heap.size 2 1 P i pc (ints ps) := h.pos.grown_apt h.recs hg (by decide)
  have hl : (rq ++ [t]).length = rq.length + 1 := by simp
  have e1 : (rq ++ [t]).flatMap Rq.cells = rq.flatMap Rq.cells ++ t.cells := by simp
  have hbl := h.box.lt
  have hrun := (h.run.grown_rec (A2 := A2) (fun x hx => .inr (.inr hx)) h.recs hg hgn).imp (Y := fun x => x = b ∨ blk P = some x ∨ blk A2 = some x) (fun x hx => by
    rcases hx with rfl | hx | hx
    · exact .inl ⟨.inl rfl, hbl⟩
    · exact .inl ⟨.inr (.inl hx), h.pos.blk_lt x hx⟩
    · exact .inr hx)
  obtain ⟨cs, hc⟩ := hrun.blk_
  have hbg := h.bg
  refine ⟨by rw [hl]; exact hbx.set_ 1 _, hps.far (p := ⟨b, 1, none⟩) (hbx.apt hps (by decide)) _, by rw [hl, e1]; exact ho.far (p := ⟨b, 1, none⟩) (hbx.apt ho (by decide)) _, ?_, (h.recs.below_of h.low hg h.low.size).setCell (p := ⟨b, 1, none⟩) h.lob _, h.lob⟩
  exact hrun.set (fun e => by
    rcases e with e | e | e
    · exact hbg e.symm
    · exact hc.apt hps (by decide) e
    · exact hc.apt ho (by decide) e) (.inl rfl) _
/-- A position more. -/
theorem QX.pos_ {A2 : Option Addr} {c2 : Nat} {v : Int} (h : QX w0 b g sy st A n k c i ps rq l u P pc R rc W) (ho : Own W' w0.heap.size 2 1 A2 (i + 1) c2 (ints (ps ++ [v]))) (hg : W.grownBy W' (blk P)) (hgn : blk A2 = blk P ∨ blk A2 = some W.heap.size) :
    QX w0 b g sy st A n k c (i + 1) (ps ++ [v]) rq l u A2 c2 R rc (W'.setCell ⟨b, 0, none⟩ (.slice A2 (i + 1) c2)) := by
  have hbx : Blk W' b 186 #[.slice P i pc, .slice R rq.length rc, .int .i64 l, .int .i64 u] := h.box.grown h.pos hg (by decide)
  have hrs : Own W' w0.heap.size 194 5 R rq.length rc (rq.flatMap Rq.cells) := h.recs.grown_apt h.pos hg (by decide)
  have hbl := h.box.lt
  obtain ⟨cs, hc⟩ := h.run.blk_
  have hc' : Blk W' g 251 cs := hc.grown h.pos hg (by decide)
  have hbg := h.bg
  have hrun : RunC (fun x => x = b ∨ blk A2 = some x ∨ blk R = some x) W' w0.heap.size g sy st A n k c := by
    obtain ⟨L, cl, Q, d, e1, e2, e3, e4, e5, e6⟩ := h.run
    have hne : ∀ x, blk A2 = some x → blk P = some x ∨ x = W.heap.size := fun x hx => by
      rcases hgn with h | h
      · exact .inl (by rw [← h]; exact hx)
      · rw [h] at hx; exact .inr (Option.some.inj hx).symm
    refine ⟨L, cl, Q, d, ?_, e2.grown hg (fun x hx hb => e5 x hb (.inr (.inl hx))), e3.grown hg (fun x hx hb => e6 x hb (.inr (.inl hx))), e4, fun x hb hx => ?_, fun x hb hx => ?_⟩
    · exact (hg.block g hc.lt (fun e => hc.apt h.pos (by decide) e.symm)).trans e1
    · rcases hx with rfl | hx | hx
      · exact e5 x hb (.inl rfl)
      · rcases hne x hx with h2 | h2
        · exact e5 x hb (.inr (.inl h2))
        · have := e2.blk_lt x hb; omega
      · exact e5 x hb (.inr (.inr hx))
    · rcases hx with rfl | hx | hx
      · exact e6 x hb (.inl rfl)
      · rcases hne x hx with h2 | h2
        · exact e6 x hb (.inr (.inl h2))
        · have := e3.blk_lt x hb; omega
      · exact e6 x hb (.inr (.inr hx))
  refine ⟨hbx.set_ 0 _, ho.far (p := ⟨b, 0, none⟩) (hbx.apt ho (by decide)) _, hrs.far (p := ⟨b, 0, none⟩) (hbx.apt hrs (by decide)) _, ?_, (h.pos.below_of h.low hg h.low.size).setCell (p := ⟨b, 0, none⟩) h.lob _, h.lob⟩
  exact hrun.set (fun e => by
    rcases e with e | e | e
    · exact hbg e.symm
    · exact hc'.apt ho (by decide) e
    · exact hc'.apt hrs (by decide) e) (.inl rfl) _
end
/-- The observer's data before the i-th configuration. -/
def QD (w0 : World) (b : Nat) (sy : Int) (rs : List R3) (c : Conf) (i : Nat) (X : Nat → Prop) (W : World) : Prop :=
  ∃ (P : Option Addr) (pc : Nat) (R : Option Addr) (rc : Nat) (rq : List Rq), X b ∧ (∀ x, blk P = some x → X x) ∧ (∀ x, blk R = some x → X x) ∧ w0.heap.size ≤ b ∧ Blk W b 186 #[.slice P i pc, .slice R rq.length rc, .int .i64 (exF sy rs c i).1, .int .i64 (exF sy rs c i).2.1] ∧
    Own W w0.heap.size 2 1 P i pc (ints (posTo sy rs c i)) ∧ Own W w0.heap.size 194 5 R rq.length rc (rq.flatMap Rq.cells) ∧ rq.map Rq.val = (exF sy rs c i).2.2
theorem QD.st (w0 : World) (b : Nat) (sy : Int) (rs : List R3) (c : Conf) (i : Nat) : StF (QD w0 b sy rs c i) := by
  rintro X W W' ⟨P, pc, R, rc, rq, h1, h2, h3, h4, h5, h6, h7, h8⟩ hf
  exact ⟨P, pc, R, rc, rq, h1, h2, h3, h4, h5.fr hf h1, h6.fr hf h2, h7.fr hf h3, h8⟩
theorem FS.qx {w0 W : World} {b g : Nat} {sy st : Int} {A : Option Addr} {n k : Nat} {rs : List R3} {c c' : Conf} {i : Nat} (h : FS w0 g sy st A n k c' (QD w0 b sy rs c i) W) : ∃ P pc R rc rq, QX w0 b g sy st A n k c' i (posTo sy rs c i) rq (exF sy rs c i).1 (exF sy rs c i).2.1 P pc R rc W ∧ rq.map Rq.val = (exF sy rs c i).2.2 := by
  obtain ⟨X, hXg, hXb, hrun, hy, P, pc, R, rc, rq, h1, h2, h3, h4, h5, h6, h7, h8⟩ := h
  exact ⟨P, pc, R, rc, rq, ⟨h5, h6, h7, hrun.imp (fun x hx => by rcases hx with rfl | hx | hx; exact h1; exact h2 x hx; exact h3 x hx), hy, h4⟩, h8⟩
theorem QX.fs {w0 W : World} {b g : Nat} {sy st : Int} {A : Option Addr} {n k : Nat} {rs : List R3} {c c' : Conf} {i : Nat} {P R : Option Addr} {pc rc : Nat} {rq : List Rq} (h : QX w0 b g sy st A n k c' i (posTo sy rs c i) rq (exF sy rs c i).1 (exF sy rs c i).2.1 P pc R rc W) (h8 : rq.map Rq.val = (exF sy rs c i).2.2) : FS w0 g sy st A n k c' (QD w0 b sy rs c i) W := by
  obtain ⟨cs, hc⟩ := h.run.blk_
  refine ⟨fun x => x = b ∨ blk P = some x ∨ blk R = some x, fun e => ?_, fun x hx => ?_, h.run, h.low, P, pc, R, rc, rq, .inl rfl, fun x hx => .inr (.inl hx), fun x hx => .inr (.inr hx), h.lob, h.box, h.pos, h.recs, h8⟩
  · rcases e with e | e | e
    · exact h.bg e.symm
    · exact hc.apt h.pos (by decide) e
    · exact hc.apt h.recs (by decide) e
  · rcases hx with rfl | hx | hx
    · exact h.box.lt
    · exact h.pos.blk_lt x hx
    · exact h.recs.blk_lt x hx
end Go.Proofs.Ythipbeggaeogcaa
