/-
  Contract of impl's usedRules: the state ahead of the first round.
-/
import Derived.Test.YtbedghebckflmaaUsedP
import Derived.Test.YtbedghebckflmaaStepsT
import Derived.Test.YtbedghebckflmaaNewI
import Derived.Test.YtbedghebckflmaaNodeI
import Derived.Deep.RegionHeld3
import Derived.Deep.DeepCutAuto
namespace Go.Proofs.Ytbedghebckflmaa
open Go.RowKit Go.Shelf
attribute [local go_sem] Oper.semAt_some

/-- make([]T, n) as an operation of a region. -/
theorem wp_make_Own {P : Program} {t e : TypeId} {s bytes : Nat} {z : Value} {o : Oper} {a : Act} {K : Act → World → Prop} {Q : Exit → Act → World → Prop} (l c : Operand) (ho : o.op = Op.makeSlice t l c)
    (E : Elem P t e s bytes z) {w : World} {kl kc : IntKind} {n : Nat} (hl : a.eval l = .int kl (n : Int)) (hc : a.eval c = .int kc (n : Int)) (hb : bytes * n ≤ 281474976710656) (hm : n ≤ maxLen) {lo : Nat} (hlo : lo ≤ w.heap.size)
    (hK : ∀ ub w2, ub = w.heap.size → Own w2 lo e s (some ⟨ub, 0, none⟩) n n (madeCells z.cells (n * s)).toList → Below w.heap.size w w2 → K (a.put o.dst (.slice (some ⟨ub, 0, none⟩) n n)) w2) : o.wp P a w K Q := by
  obtain ⟨w2, hrun, r1, r2, r3⟩ := run_make_Own E w kl kc hb hm hlo
  unfold Oper.wp
  simp [execOp, ho, hl, hc, hrun, Oper.upon]
  exact hK _ w2 rfl r1 r2

theorem Own.blk_of {w : World} {lo n c s b : Nat} {e : TypeId} {A : Option Addr} {cs : List Value} (h : Own w lo e s A n c cs) (hb : blk A = some b) : ∃ cur, Blk w b e cur := by
  rcases h.2 with ⟨rfl, _⟩ | ⟨b', off, cur, rfl, _, hg, _⟩
  · simp [blk] at hb
  · simp [blk] at hb; subst hb; exact ⟨cur, hg⟩
theorem RunC.lo_le {X : Nat → Prop} {w : World} {lo lo' g : Nat} {sy st : Int} {A : Option Addr} {n k : Nat} {c : Conf} (h : RunC X w lo g sy st A n k c) (hl : lo' ≤ lo) : RunC X w lo' g sy st A n k c := by
  obtain ⟨L, cl, R, d, h1, h2, h3, h4⟩ := h
  exact ⟨L, cl, R, d, h1, h2.mono hl, h3.mono hl, h4⟩
/-- One block more, as a world of its own name. -/
theorem alloc_pack {V w : World} {B : Nat} (_hz : Below B V w) (cs : Array Value) (t : TypeId) : ∃ W, W = w.alloc (.cells cs t) ∧ Below w.heap.size w W ∧ Blk W w.heap.size t cs := ⟨_, rfl, (Below.refl _ _).alloc (Nat.le_refl _) _, Blk.new w t cs⟩
/-- A store into a box, as a world of its own name. -/
theorem set_pack {V w : World} {B b : Nat} {t : TypeId} {x : Value} (hz : Below B V w) (hb : Blk w b t #[x]) (hB : B ≤ b) (u : Value) :
    ∃ W, W = w.setCell ⟨b, 0, none⟩ u ∧ Below B V W ∧ Blk W b t #[u] ∧ (∀ {g : Nat} {t' : TypeId} {cs : Array Value}, Blk w g t' cs → t' ≠ t → Blk W g t' cs) ∧ (∀ {lo s n c : Nat} {e : TypeId} {A : Option Addr} {cs : List Value}, Own w lo e s A n c cs → t ≠ e → Own W lo e s A n c cs) :=
  ⟨_, rfl, hz.setCell (p := ⟨b, 0, none⟩) hB u, hb.set_ 0 u, fun h hne => h.far (p := ⟨b, 0, none⟩) (by intro e; subst e; unfold Blk at h hb; rw [h] at hb; simp at hb; exact hne hb.2) u, fun h hne => h.far (p := ⟨b, 0, none⟩) (hb.apt h hne) u⟩
theorem RunC.packed {w W : World} {lo g : Nat} {sy st : Int} {A : Option Addr} {n k : Nat} {c : Conf} {t : TypeId} (h : RunC (fun _ => False) w lo g sy st A n k c) (kb : ∀ {g : Nat} {t' : TypeId} {cs : Array Value}, Blk w g t' cs → t' ≠ t → Blk W g t' cs) (ko : ∀ {lo s n c : Nat} {e : TypeId} {A : Option Addr} {cs : List Value}, Own w lo e s A n c cs → t ≠ e → Own W lo e s A n c cs) (h1 : t ≠ 2) (h2 : 155 ≠ t) : RunC (fun _ => False) W lo g sy st A n k c := by
  obtain ⟨L, cl, R, d, h3, h4, h5, h6⟩ := h
  exact ⟨L, cl, R, d, kb h3 h2, ko h4 h1, ko h5 h1, h6⟩
/-- The state ahead of the first round, wherever the runner lies. -/
theorem StO.start2 {p : Rn} {w W : World} {lo : Nat} (hrun : RunC (fun _ => False) w lo p.g p.sy p.st p.A p.n p.k p.c) (hlo : p.w0.heap.size ≤ lo) (hg : lo ≤ p.g) (hz : Below p.w0.heap.size p.w0 W) (z : Below w.heap.size w W)
    (m : Blk W p.mb 2 #[.int .i64 (p.most : Int)]) (r : Blk W p.rb 98 #[.pointer (some ⟨p.g, 0, none⟩)]) (hm : w.heap.size ≤ p.mb) (hr : w.heap.size ≤ p.rb) :
    ∃ X, StO p 0 X W ∧ ∀ b t cur, Blk W b t cur → (b < lo ∨ w.heap.size ≤ b ∨ (t ≠ 2 ∧ t ≠ 155)) → X b := by
  obtain ⟨L, cl, R, d, hra, ol, or_, hap, _, _⟩ := hrun
  have hgw : p.g < w.heap.size := Blk.lt hra
  have hraW : Blk W p.g 155 _ := Blk.below' hra z
  have olW := ol.below z
  have orW := or_.below z
  have key : ∀ b t cur, Blk W b t cur → (b < lo ∨ w.heap.size ≤ b ∨ (t ≠ 2 ∧ t ≠ 155)) → (∃ o : Obj, W.heap[b]? = some o ∧ o.isCells = true) ∧ b ≠ p.g ∧ blk L ≠ some b ∧ blk R ≠ some b := by
    intro b t cur hb h
    refine ⟨⟨_, hb, rfl⟩, ?_, ?_, ?_⟩
    · intro e
      rcases h with h | h | h
      · omega
      · omega
      · have h1 : Blk W p.g t cur := e ▸ hb
        unfold Blk at h1 hraW
        rw [h1] at hraW
        simp at hraW
        exact h.2 hraW.2
    · intro e
      rcases h with h | h | h
      · have := ol.blk_ge b e; omega
      · have := ol.blk_lt b e; omega
      · exact hb.apt olW h.1 e
    · intro e
      rcases h with h | h | h
      · have := or_.blk_ge b e; omega
      · have := or_.blk_lt b e; omega
      · exact hb.apt orW h.1 e
  refine ⟨fun b => (∃ o : Obj, W.heap[b]? = some o ∧ o.isCells = true) ∧ b ≠ p.g ∧ blk L ≠ some b ∧ blk R ≠ some b, ⟨fun h => h.2.1 rfl, key _ _ _ m (.inr (.inl hm)), key _ _ _ r (.inr (.inl hr)), fun b hb => hb.1, ⟨L, cl, R, d, hraW, olW.mono hlo, orW.mono hlo, hap, fun b hb h => h.2.2.1 hb, fun b hb h => h.2.2.2 hb⟩, hz, m, r⟩, key⟩

/-- What usedRules' own cells hold ahead of round i. -/
def usdD (lo N : Nat) (g : Nat) (sy : Int) (rs : List R3) (c : Conf) (n s1 s2 s3 b8 b9 ub i : Nat) (X : Nat → Prop) (W : World) : Prop :=
  X s1 ∧ X s2 ∧ X s3 ∧ X b8 ∧ X b9 ∧ X ub ∧ Blk W s1 34 #[.slice none 0 0] ∧ Blk W s2 2 #[.int .i64 0] ∧ Blk W s3 2 #[.int .i64 (N : Int)] ∧ Blk W b8 98 #[.pointer (some ⟨g, 0, none⟩)] ∧ Blk W b9 103 #[.slice (some ⟨ub, 0, none⟩) n n] ∧
    Own W lo 4 1 (some ⟨ub, 0, none⟩) n n (bools (usedR sy rs c n N i))
theorem usdD_st (lo N g : Nat) (sy : Int) (rs : List R3) (c : Conf) (n s1 s2 s3 b8 b9 ub i : Nat) : StD (usdD lo N g sy rs c n s1 s2 s3 b8 b9 ub i) := by
  rintro X W W' ⟨x1, x2, x3, x4, x5, x6, h1, h2, h3, h4, h5, h6⟩ hf
  exact ⟨x1, x2, x3, x4, x5, x6, h1.fr hf x1, h2.fr hf x2, h3.fr hf x3, h4.fr hf x4, h5.fr hf x5, h6.fr hf (fun b hb => by simp [blk] at hb; subst hb; exact x6)⟩
theorem usdD_stay {lo N g : Nat} {sy : Int} {rs : List R3} {c : Conf} {n s1 s2 s3 b8 b9 ub i : Nat} (h : ¬ (i < N ∧ haltC sy rs (itC sy rs c i) = false)) {X : Nat → Prop} {W : World} (hd : usdD lo N g sy rs c n s1 s2 s3 b8 b9 ub i X W) : usdD lo N g sy rs c n s1 s2 s3 b8 b9 ub (i + 1) X W := by
  unfold usdD at hd ⊢
  rw [usedR_stay h]; exact hd
def usdJx (p : Rn) (s1 s2 : Nat) (c : Code) (_x : Nat × Bool) (W : World) : Prop :=
  c = .ret ∧ (∃ j, Full p.sy p.rs p.c p.most j) ∧ Below p.w0.heap.size p.w0 W ∧ Blk W s1 34 #[.slice none 0 0] ∧ Blk W s2 2 #[.int .i64 5]
theorem usdJx_put {p : Rn} {s1 s2 b0 : Nat} {c : Code} {x : Nat × Bool} (hb : p.w0.heap.size ≤ b0) : PutOk b0 (usdJx p s1 s2 c x) := by
  rintro W l o o' ⟨h1, h2, h3, h4, h5⟩ hl hg ho
  exact ⟨h1, h2, below_put h3 (by omega) o' hg, h4.put o' hg ho, h5.put o' hg ho⟩
theorem Blk.cells {w : World} {b : Nat} {t : TypeId} {cur : Array Value} (h : Blk w b t cur) : ∃ o : Obj, w.heap[b]? = some o ∧ o.isCells = true := ⟨_, h, rfl⟩
/-- A round that marks a rule as used. -/
theorem usd_round {p : Rn} {lo g n s1 s2 s3 b8 b9 ub i ix : Nat} {X : Nat → Prop} {W W7 : World} (hO : StO p i X W) (hD : usdD lo p.most g p.sy p.rs p.c n s1 s2 s3 b8 b9 ub i X W) (z7 : Below W.heap.size W W7) (hi : i < p.most) (hh : haltC p.sy p.rs (p.it i) = false) (hix : idxC p.sy (p.it i) = ix) (hn : ix < n) (hlo : p.w0.heap.size ≤ lo) :
    KeepsOthers W (W7.setCell ⟨ub, ix, none⟩ (.bool true)) ∧ StS p i (usdD lo p.most g p.sy p.rs p.c n s1 s2 s3 b8 b9 ub (i + 1)) (W7.setCell ⟨ub, ix, none⟩ (.bool true)) := by
  obtain ⟨x1, x2, x3, x4, x5, x6, h1, h2, h3, h4, h5, h6⟩ := hD
  obtain ⟨cur, hcur⟩ := h6.blk_of (b := ub) rfl
  have hcur7 := hcur.below' z7
  have k : Keep (fun b => b = ub) W (W7.setCell ⟨ub, ix, none⟩ (.bool true)) := ((Keep.refl (fun b => b = ub) W).below z7).set (o := ix) (show ub = ub from rfl) _
  have ny : ∀ {b : Nat} {t : TypeId} {cs : Array Value}, Blk W b t cs → t ≠ 4 → ¬ b = ub := fun hb hne e => by
    subst e
    unfold Blk at hb hcur
    rw [hb] at hcur
    simp at hcur
    exact hne hcur.2
  obtain ⟨hO', hK⟩ := hO.turn k (fun b hb => by
    subst hb
    exact ⟨x6, fun e => ny hO.bm (by decide) e.symm, fun e => ny hO.br (by decide) e.symm, by have h9 : lo ≤ b := h6.blk_ge b rfl; omega⟩) (fun b hb => by
    subst hb
    exact (hcur7.set_ ix (.bool true)).cells)
  refine ⟨hK, hO'.st ?_⟩
  have hl : ix < (bools (usedR p.sy p.rs p.c n p.most i)).length := by rw [length_bools, usedR_len]; exact hn
  have h7 := (h6.below z7).set_ hl (.bool true)
  rw [bools_set, Nat.zero_add] at h7
  refine ⟨.inl x1, .inl x2, .inl x3, .inl x4, .inl x5, .inl x6, (k.block _ h1.lt (ny h1 (by decide))).trans h1, (k.block _ h2.lt (ny h2 (by decide))).trans h2, (k.block _ h3.lt (ny h3 (by decide))).trans h3, (k.block _ h4.lt (ny h4 (by decide))).trans h4, (k.block _ h5.lt (ny h5 (by decide))).trans h5, ?_⟩
  rw [usedR_step hi hh, hix]
  exact h7

set_option maxRecDepth 100000 in
set_option maxHeartbeats 16000000 in
theorem usedRules_any (sy st : Int) (A : Option Addr) (n k : Nat) (rs : List R3) (q : Int) (B : Option Addr) (m a : Nat) (xs : List Int) (C : Option Addr) (l d : Nat) (ys : List Int) (N : Nat) (w : World) (hr : S3 w A n rs) (hx : SI w B m xs) (hy : SI w C l ys) (hn : n ≤ 1048576) (hm : m ≤ 1048576) (hl : l ≤ 1048576)
    (hg : goodC sy st rs ⟨q, xs, ys⟩) (h1 : inB (N : Int) 1 20000 = true) :
    Calls Try.prog 88 #[.agg #[.int .i64 sy, .int .i64 st, .slice A n k], .agg #[.int .i64 q, .slice B m a, .slice C l d], .int .i64 (N : Int)] w (NewI2 w (usedRulesF sy st rs q xs ys (N : Int))) := by
  refine (callsIn_wide (n := 3)).1 (callsIn_of_wp_marks Try.func88 rfl trivial (wpIn_wide.2 ?_) rfl)
  simp only [Try.ntmps88, List.size_toArray, List.length_cons, List.length_nil, Nat.reduceAdd, Nat.reduceSub, Array.replicate_succ, Array.replicate_zero, List.push_toArray, List.append_toArray, List.nil_append, List.cons_append]
  obtain ⟨V, hW_⟩ : ∃ W, W = ((((w.alloc (.cells #[.int .i64 sy, .int .i64 st, .slice A n k] 30)).alloc (.cells #[.int .i64 q, .slice B m a, .slice C l d] 38)).alloc (.cells #[.int .i64 (N : Int)] 2)).alloc (.cells #[.slice none 0 0] 34)).alloc (.cells #[.int .i64 0] 2) := ⟨_, rfl⟩
  have s_1 : (w.alloc (.cells #[.int .i64 sy, .int .i64 st, .slice A n k] 30)).heap.size = w.heap.size + 1 := by simp
  have s_2 : ((w.alloc (.cells #[.int .i64 sy, .int .i64 st, .slice A n k] 30)).alloc (.cells #[.int .i64 q, .slice B m a, .slice C l d] 38)).heap.size = w.heap.size + 1 + 1 := by simp
  have s_3 : (((w.alloc (.cells #[.int .i64 sy, .int .i64 st, .slice A n k] 30)).alloc (.cells #[.int .i64 q, .slice B m a, .slice C l d] 38)).alloc (.cells #[.int .i64 (N : Int)] 2)).heap.size = w.heap.size + 1 + 1 + 1 := by simp
  have s_4 : ((((w.alloc (.cells #[.int .i64 sy, .int .i64 st, .slice A n k] 30)).alloc (.cells #[.int .i64 q, .slice B m a, .slice C l d] 38)).alloc (.cells #[.int .i64 (N : Int)] 2)).alloc (.cells #[.slice none 0 0] 34)).heap.size = w.heap.size + 1 + 1 + 1 + 1 := by simp
  have b0 : Blk V w.heap.size 30 #[.int .i64 sy, .int .i64 st, .slice A n k] := by rw [hW_]; exact ((((Blk.new w _ _).alloc _).alloc _).alloc _).alloc _
  have b1 : Blk V (w.heap.size + 1) 38 #[.int .i64 q, .slice B m a, .slice C l d] := by rw [hW_, ← s_1]; exact (((Blk.new _ _ _).alloc _).alloc _).alloc _
  have b2 : Blk V (w.heap.size + 1 + 1) 2 #[.int .i64 (N : Int)] := by rw [hW_, ← s_2]; exact ((Blk.new _ _ _).alloc _).alloc _
  have b3 : Blk V (w.heap.size + 1 + 1 + 1) 34 #[.slice none 0 0] := by rw [hW_, ← s_3]; exact (Blk.new _ _ _).alloc _
  have b4 : Blk V (w.heap.size + 1 + 1 + 1 + 1) 2 #[.int .i64 0] := by rw [hW_, ← s_4]; exact Blk.new _ _ _
  have y0 : Below w.heap.size w V := by rw [hW_]; exact (((((Below.refl _ _).alloc (Nat.le_refl _) _).alloc (by simp) _).alloc (by simp; omega) _).alloc (by simp; omega) _).alloc (by simp; omega) _
  have HV := Lib.hid hW_
  clear hW_ s_1 s_2 s_3 s_4
  have hV4 : w.heap.size + 1 + 1 + 1 + 1 < V.heap.size := b4.lt
  have H1 := Lib.hid h1
  clear h1
  go_upto_region 1 with fail
  rw [← HV.out]
  go_cut [8, 9] from 15 to 21 (fun s8 s9 wx => ∃ g b8 b9 ub, s8 = .pointer (some ⟨b8, 0, none⟩) ∧ s9 = .pointer (some ⟨b9, 0, none⟩) ∧ V.heap.size ≤ g ∧ V.heap.size ≤ b8 ∧ V.heap.size ≤ b9 ∧ RunC (fun _ => False) wx V.heap.size g sy st A n k ⟨q, xs, ys⟩ ∧ Blk wx b8 98 #[.pointer (some ⟨g, 0, none⟩)] ∧ Blk wx b9 103 #[.slice (some ⟨ub, 0, none⟩) n n] ∧ Own wx V.heap.size 4 1 (some ⟨ub, 0, none⟩) n n (bools (List.replicate n false)) ∧ Below V.heap.size V wx)
  case first =>
    have hz : Below V.heap.size V V.drew := below_drewN (Below.refl _ _) 1
    have hb0 : Blk V.drew w.heap.size 30 #[.int .i64 sy, .int .i64 st, .slice A n k] := b0
    have hb1 : Blk V.drew (w.heap.size + 1) 38 #[.int .i64 q, .slice B m a, .slice C l d] := b1
    have HX := Lib.hid hx
    have HY := Lib.hid hy
    have hv0 := y0.size
    clear b0 b1 b2 b3 b4 hx hy hr hg H1
    refine wp_region_noPanic ?_
    refine wp_region_held_drew (S := (fun w' => w'.cell? ⟨w.heap.size, 0, none⟩ = some (.int .i64 sy) ∧ w'.cell? ⟨w.heap.size, 1, none⟩ = some (.int .i64 st) ∧ w'.cell? ⟨w.heap.size, 2, none⟩ = some (.slice A n k) ∧ w'.cell? ⟨w.heap.size + 1, 0, none⟩ = some (.int .i64 q) ∧ w'.cell? ⟨w.heap.size + 1, 1, none⟩ = some (.slice B m a) ∧ w'.cell? ⟨w.heap.size + 1, 2, none⟩ = some (.slice C l d))) (by kernel_rfl) ?_ (fun hHeld => ?_)
    · exact ⟨hb0.cell 0, hb0.cell 1, hb0.cell 2, hb1.cell 0, hb1.cell 1, hb1.cell 2⟩
    generalize V.drew = Wc at *
    refine wpAnyH_take (i := 0) (v := ?_) rfl (by kernel_rfl) (by kernel_rfl) (by kernel_rfl) (fun _ _ _ h => h) (Or.inl ⟨by rfl, ?_⟩) (by assumption) ?_
    rotate_left
    · intro w hSw
      try dsimp only at hSw
      go_simp
      try with_reducible rfl
    try simp only [Act.put, List.setIfInBounds_toArray, List.set_cons_zero, List.set_cons_succ]
    refine wpAnyH_take (i := 1) (v := ?_) rfl (by kernel_rfl) (by kernel_rfl) (by kernel_rfl) (fun _ _ _ h => h) (Or.inl ⟨by rfl, ?_⟩) (by assumption) ?_
    rotate_left
    · intro w hSw
      try dsimp only at hSw
      go_simp
      try with_reducible rfl
    try simp only [Act.put, List.setIfInBounds_toArray, List.set_cons_zero, List.set_cons_succ]
    refine wpAnyH_take (i := 3) (v := ?_) rfl (by kernel_rfl) (by kernel_rfl) (by kernel_rfl) (fun _ _ _ h => h) (Or.inl ⟨by rfl, ?_⟩) (by assumption) ?_
    rotate_left
    · intro w hSw
      try dsimp only at hSw
      go_simp
      try with_reducible rfl
    try simp only [Act.put, List.setIfInBounds_toArray, List.set_cons_zero, List.set_cons_succ]
    refine wpAnyH_take (i := 4) (v := ?_) rfl (by kernel_rfl) (by kernel_rfl) (by kernel_rfl) (fun _ _ _ h => h) (Or.inl ⟨by rfl, ?_⟩) (by assumption) ?_
    rotate_left
    · intro w hSw
      try dsimp only at hSw
      go_simp
      try with_reducible rfl
    try simp only [Act.put, List.setIfInBounds_toArray, List.set_cons_zero, List.set_cons_succ]
    refine wpAnyH_take (i := 5) (v := ?_) rfl (by kernel_rfl) (by kernel_rfl) (by kernel_rfl) (fun _ _ _ h => h) (Or.inl ⟨by rfl, ?_⟩) (by assumption) ?_
    rotate_left
    · intro w hSw
      try dsimp only at hSw
      go_simp
      try with_reducible rfl
    try simp only [Act.put, List.setIfInBounds_toArray, List.set_cons_zero, List.set_cons_succ]
    refine wpAnyH_ready (rs := [2, 6, 7, 8]) (by kernel_rfl) (by simp) ?_
    refine AllReadyH.cons rfl (fun K hK => ?_) ?_
    · go_simp
      refine (runnerOf_any _ _ _ _ _ _ _ _ _ xs _ _ _ ys _ (HX.out.below (y0.trans (hz.mono hv0))) (HY.out.below (y0.trans (hz.mono hv0))) hm hl).mono ?_
      rintro e Wc ⟨g, L, cl, R, cr, rfl, hgW, hrun, ol, or_, hap, z⟩
      have hrc := (NewRunner.runC hrun ol or_ hap).lo_le hz.size
      have hgV := Nat.le_trans hz.size hgW
      replace hb0 := hb0.below' z
      replace hb1 := hb1.below' z
      try replace h8 := h8.below' z
      try replace h9 := h9.below' z
      try replace hu := hu.below z
      replace hz := hz.trans (z.mono hz.size)
      clear hap hrun ol or_ z hgW
      refine hK.out _ _ ?_ (fun hHeld => ?_)
      · exact ⟨hb0.cell 0, hb0.cell 1, hb0.cell 2, hb1.cell 0, hb1.cell 1, hb1.cell 2⟩
      clear hK K
      try simp only [Act.put, List.setIfInBounds_toArray, List.set_cons_zero, List.set_cons_succ]
      refine wpAnyH_ready (rs := [6, 7, 8]) (by kernel_rfl) (by simp) ?_
      refine AllReadyH.cons rfl (fun K hK => ?_) ?_
      · rw [if_pos (by rfl)]
        refine wp_make_Own (.tmp 20) (.tmp 20) rfl elBool (n := n) (lo := V.heap.size) rfl rfl (by omega) (by simp only [maxLen]; omega) hz.size ?_
        intro ub Wc hub hu z
        clear hub
        rw [made_bools] at hu
        replace hb0 := hb0.below' z
        replace hb1 := hb1.below' z
        try replace h8 := h8.below' z
        try replace h9 := h9.below' z
        try replace hrc := hrc.below z
        replace hz := hz.trans (z.mono hz.size)
        clear z
        refine hK.out _ _ ?_ (fun hHeld => ?_)
        · exact ⟨hb0.cell 0, hb0.cell 1, hb0.cell 2, hb1.cell 0, hb1.cell 1, hb1.cell 2⟩
        clear hK K
        try simp only [Act.put, List.setIfInBounds_toArray, List.set_cons_zero, List.set_cons_succ]
        refine wpAnyH_ready (rs := [7, 8]) (by kernel_rfl) (by simp) ?_
        refine AllReadyH.cons rfl (fun K hK => ?_) ?_
        · go_simp
          obtain ⟨Wc, hWc, z, h8⟩ := alloc_pack hz #[.pointer none] 98
          have h8l := hz.size
          rw [← hWc]
          clear hWc
          replace hb0 := hb0.below' z
          replace hb1 := hb1.below' z
          try replace h9 := h9.below' z
          try replace hu := hu.below z
          try replace hrc := hrc.below z
          replace hz := hz.trans (z.mono hz.size)
          clear z
          refine hK.out _ _ ?_ (fun hHeld => ?_)
          · exact ⟨hb0.cell 0, hb0.cell 1, hb0.cell 2, hb1.cell 0, hb1.cell 1, hb1.cell 2⟩
          clear hK K
          try simp only [Act.put, List.setIfInBounds_toArray, List.set_cons_zero, List.set_cons_succ]
          refine wpAnyH_ready (rs := [8]) (by kernel_rfl) (by simp) ?_
          refine AllReadyH.cons rfl (fun K hK => ?_) ?_
          · go_simp
            obtain ⟨Wc, hWc, z, h9⟩ := alloc_pack hz #[.slice none 0 0] 103
            have h9l := hz.size
            rw [← hWc]
            clear hWc
            replace hb0 := hb0.below' z
            replace hb1 := hb1.below' z
            try replace h8 := h8.below' z
            try replace hu := hu.below z
            try replace hrc := hrc.below z
            replace hz := hz.trans (z.mono hz.size)
            clear z
            refine hK.out _ _ ?_ (fun hHeld => ?_)
            · exact ⟨hb0.cell 0, hb0.cell 1, hb0.cell 2, hb1.cell 0, hb1.cell 1, hb1.cell 2⟩
            clear hK K
            try simp only [Act.put, List.setIfInBounds_toArray, List.set_cons_zero, List.set_cons_succ]
            refine wpAnyH_ready (rs := [9]) (by kernel_rfl) (by simp) ?_
            refine AllReadyH.cons rfl (fun K hK => ?_) ?_
            · have cc := h8.cell 0
              have ff := h8.frozen 0
              go_simp
              obtain ⟨Wc, hWc, hz2, hn, kb, ko⟩ := set_pack hz h8 h8l (.pointer (some ⟨g, 0, none⟩))
              rw [← hWc]
              clear hWc cc ff
              replace hz := hz2
              replace h8 := hn
              replace hb0 := kb hb0 (by decide)
              replace hb1 := kb hb1 (by decide)
              replace h9 := kb h9 (by decide)
              try replace hu := ko hu (by decide)
              try replace hrc := hrc.packed kb ko (by decide) (by decide)
              clear kb ko
              refine hK.out _ _ ?_ (fun hHeld => ?_)
              · exact ⟨hb0.cell 0, hb0.cell 1, hb0.cell 2, hb1.cell 0, hb1.cell 1, hb1.cell 2⟩
              clear hK K
              try simp only [Act.put, List.setIfInBounds_toArray]
              refine wpAnyH_ready (rs := [10]) (by kernel_rfl) (by simp) ?_
              refine AllReadyH.cons rfl (fun K hK => ?_) ?_
              · have cc := h9.cell 0
                have ff := h9.frozen 0
                go_simp
                obtain ⟨Wc, hWc, hz2, hn, kb, ko⟩ := set_pack hz h9 h9l (.slice (some ⟨ub, 0, none⟩) n n)
                rw [← hWc]
                clear hWc cc ff
                replace hz := hz2
                replace h9 := hn
                replace hb0 := kb hb0 (by decide)
                replace hb1 := kb hb1 (by decide)
                replace h8 := kb h8 (by decide)
                try replace hu := ko hu (by decide)
                try replace hrc := hrc.packed kb ko (by decide) (by decide)
                clear kb ko
                refine hK.out _ _ ?_ (fun hHeld => ?_)
                · exact ⟨hb0.cell 0, hb0.cell 1, hb0.cell 2, hb1.cell 0, hb1.cell 1, hb1.cell 2⟩
                clear hK K
                try simp only [Act.put, List.setIfInBounds_toArray]
                refine wpAnyH_done (by kernel_rfl) ?_ _
                refine NoPanic.normal ?_
                go_wp2_with fail
                go_meet
                exact ⟨g, _, _, ub, rfl, rfl, hgV, h8l, h9l, hrc, h8, h9, hu, hz⟩
              exact AllReadyH.nil
            exact AllReadyH.nil
          exact AllReadyH.nil
        refine AllReadyH.cons rfl (fun K hK => ?_) ?_
        · go_simp
          obtain ⟨Wc, hWc, z, h9⟩ := alloc_pack hz #[.slice none 0 0] 103
          have h9l := hz.size
          rw [← hWc]
          clear hWc
          replace hb0 := hb0.below' z
          replace hb1 := hb1.below' z
          try replace h8 := h8.below' z
          try replace hu := hu.below z
          try replace hrc := hrc.below z
          replace hz := hz.trans (z.mono hz.size)
          clear z
          refine hK.out _ _ ?_ (fun hHeld => ?_)
          · exact ⟨hb0.cell 0, hb0.cell 1, hb0.cell 2, hb1.cell 0, hb1.cell 1, hb1.cell 2⟩
          clear hK K
          try simp only [Act.put, List.setIfInBounds_toArray, List.set_cons_zero, List.set_cons_succ]
          refine wpAnyH_ready (rs := [7]) (by kernel_rfl) (by simp) ?_
          refine AllReadyH.cons rfl (fun K hK => ?_) ?_
          · go_simp
            obtain ⟨Wc, hWc, z, h8⟩ := alloc_pack hz #[.pointer none] 98
            have h8l := hz.size
            rw [← hWc]
            clear hWc
            replace hb0 := hb0.below' z
            replace hb1 := hb1.below' z
            try replace h9 := h9.below' z
            try replace hu := hu.below z
            try replace hrc := hrc.below z
            replace hz := hz.trans (z.mono hz.size)
            clear z
            refine hK.out _ _ ?_ (fun hHeld => ?_)
            · exact ⟨hb0.cell 0, hb0.cell 1, hb0.cell 2, hb1.cell 0, hb1.cell 1, hb1.cell 2⟩
            clear hK K
            try simp only [Act.put, List.setIfInBounds_toArray, List.set_cons_zero, List.set_cons_succ]
            refine wpAnyH_ready (rs := [9]) (by kernel_rfl) (by simp) ?_
            refine AllReadyH.cons rfl (fun K hK => ?_) ?_
            · have cc := h8.cell 0
              have ff := h8.frozen 0
              go_simp
              obtain ⟨Wc, hWc, hz2, hn, kb, ko⟩ := set_pack hz h8 h8l (.pointer (some ⟨g, 0, none⟩))
              rw [← hWc]
              clear hWc cc ff
              replace hz := hz2
              replace h8 := hn
              replace hb0 := kb hb0 (by decide)
              replace hb1 := kb hb1 (by decide)
              replace h9 := kb h9 (by decide)
              try replace hu := ko hu (by decide)
              try replace hrc := hrc.packed kb ko (by decide) (by decide)
              clear kb ko
              refine hK.out _ _ ?_ (fun hHeld => ?_)
              · exact ⟨hb0.cell 0, hb0.cell 1, hb0.cell 2, hb1.cell 0, hb1.cell 1, hb1.cell 2⟩
              clear hK K
              try simp only [Act.put, List.setIfInBounds_toArray]
              refine wpAnyH_ready (rs := [10]) (by kernel_rfl) (by simp) ?_
              refine AllReadyH.cons rfl (fun K hK => ?_) ?_
              · have cc := h9.cell 0
                have ff := h9.frozen 0
                go_simp
                obtain ⟨Wc, hWc, hz2, hn, kb, ko⟩ := set_pack hz h9 h9l (.slice (some ⟨ub, 0, none⟩) n n)
                rw [← hWc]
                clear hWc cc ff
                replace hz := hz2
                replace h9 := hn
                replace hb0 := kb hb0 (by decide)
                replace hb1 := kb hb1 (by decide)
                replace h8 := kb h8 (by decide)
                try replace hu := ko hu (by decide)
                try replace hrc := hrc.packed kb ko (by decide) (by decide)
                clear kb ko
                refine hK.out _ _ ?_ (fun hHeld => ?_)
                · exact ⟨hb0.cell 0, hb0.cell 1, hb0.cell 2, hb1.cell 0, hb1.cell 1, hb1.cell 2⟩
                clear hK K
                try simp only [Act.put, List.setIfInBounds_toArray]
                refine wpAnyH_done (by kernel_rfl) ?_ _
                refine NoPanic.normal ?_
                go_wp2_with fail
                go_meet
                exact ⟨g, _, _, ub, rfl, rfl, hgV, h8l, h9l, hrc, h8, h9, hu, hz⟩
              exact AllReadyH.nil
            exact AllReadyH.nil
          exact AllReadyH.nil
        exact AllReadyH.nil
      refine AllReadyH.cons rfl (fun K hK => ?_) ?_
      · go_simp
        obtain ⟨Wc, hWc, z, h8⟩ := alloc_pack hz #[.pointer none] 98
        have h8l := hz.size
        rw [← hWc]
        clear hWc
        replace hb0 := hb0.below' z
        replace hb1 := hb1.below' z
        try replace h9 := h9.below' z
        try replace hu := hu.below z
        try replace hrc := hrc.below z
        replace hz := hz.trans (z.mono hz.size)
        clear z
        refine hK.out _ _ ?_ (fun hHeld => ?_)
        · exact ⟨hb0.cell 0, hb0.cell 1, hb0.cell 2, hb1.cell 0, hb1.cell 1, hb1.cell 2⟩
        clear hK K
        try simp only [Act.put, List.setIfInBounds_toArray, List.set_cons_zero, List.set_cons_succ]
        refine wpAnyH_ready (rs := [6, 8]) (by kernel_rfl) (by simp) ?_
        refine AllReadyH.cons rfl (fun K hK => ?_) ?_
        · rw [if_pos (by rfl)]
          refine wp_make_Own (.tmp 20) (.tmp 20) rfl elBool (n := n) (lo := V.heap.size) rfl rfl (by omega) (by simp only [maxLen]; omega) hz.size ?_
          intro ub Wc hub hu z
          clear hub
          rw [made_bools] at hu
          replace hb0 := hb0.below' z
          replace hb1 := hb1.below' z
          try replace h8 := h8.below' z
          try replace h9 := h9.below' z
          try replace hrc := hrc.below z
          replace hz := hz.trans (z.mono hz.size)
          clear z
          refine hK.out _ _ ?_ (fun hHeld => ?_)
          · exact ⟨hb0.cell 0, hb0.cell 1, hb0.cell 2, hb1.cell 0, hb1.cell 1, hb1.cell 2⟩
          clear hK K
          try simp only [Act.put, List.setIfInBounds_toArray, List.set_cons_zero, List.set_cons_succ]
          refine wpAnyH_ready (rs := [8]) (by kernel_rfl) (by simp) ?_
          refine AllReadyH.cons rfl (fun K hK => ?_) ?_
          · go_simp
            obtain ⟨Wc, hWc, z, h9⟩ := alloc_pack hz #[.slice none 0 0] 103
            have h9l := hz.size
            rw [← hWc]
            clear hWc
            replace hb0 := hb0.below' z
            replace hb1 := hb1.below' z
            try replace h8 := h8.below' z
            try replace hu := hu.below z
            try replace hrc := hrc.below z
            replace hz := hz.trans (z.mono hz.size)
            clear z
            refine hK.out _ _ ?_ (fun hHeld => ?_)
            · exact ⟨hb0.cell 0, hb0.cell 1, hb0.cell 2, hb1.cell 0, hb1.cell 1, hb1.cell 2⟩
            clear hK K
            try simp only [Act.put, List.setIfInBounds_toArray, List.set_cons_zero, List.set_cons_succ]
            refine wpAnyH_ready (rs := [9]) (by kernel_rfl) (by simp) ?_
            refine AllReadyH.cons rfl (fun K hK => ?_) ?_
            · have cc := h8.cell 0
              have ff := h8.frozen 0
              go_simp
              obtain ⟨Wc, hWc, hz2, hn, kb, ko⟩ := set_pack hz h8 h8l (.pointer (some ⟨g, 0, none⟩))
              rw [← hWc]
              clear hWc cc ff
              replace hz := hz2
              replace h8 := hn
              replace hb0 := kb hb0 (by decide)
              replace hb1 := kb hb1 (by decide)
              replace h9 := kb h9 (by decide)
              try replace hu := ko hu (by decide)
              try replace hrc := hrc.packed kb ko (by decide) (by decide)
              clear kb ko
              refine hK.out _ _ ?_ (fun hHeld => ?_)
              · exact ⟨hb0.cell 0, hb0.cell 1, hb0.cell 2, hb1.cell 0, hb1.cell 1, hb1.cell 2⟩
              clear hK K
              try simp only [Act.put, List.setIfInBounds_toArray]
              refine wpAnyH_ready (rs := [10]) (by kernel_rfl) (by simp) ?_
              refine AllReadyH.cons rfl (fun K hK => ?_) ?_
              · have cc := h9.cell 0
                have ff := h9.frozen 0
                go_simp
                obtain ⟨Wc, hWc, hz2, hn, kb, ko⟩ := set_pack hz h9 h9l (.slice (some ⟨ub, 0, none⟩) n n)
                rw [← hWc]
                clear hWc cc ff
                replace hz := hz2
                replace h9 := hn
                replace hb0 := kb hb0 (by decide)
                replace hb1 := kb hb1 (by decide)
                replace h8 := kb h8 (by decide)
                try replace hu := ko hu (by decide)
                try replace hrc := hrc.packed kb ko (by decide) (by decide)
                clear kb ko
                refine hK.out _ _ ?_ (fun hHeld => ?_)
                · exact ⟨hb0.cell 0, hb0.cell 1, hb0.cell 2, hb1.cell 0, hb1.cell 1, hb1.cell 2⟩
                clear hK K
                try simp only [Act.put, List.setIfInBounds_toArray]
                refine wpAnyH_done (by kernel_rfl) ?_ _
                refine NoPanic.normal ?_
                go_wp2_with fail
                go_meet
                exact ⟨g, _, _, ub, rfl, rfl, hgV, h8l, h9l, hrc, h8, h9, hu, hz⟩
              exact AllReadyH.nil
            exact AllReadyH.nil
          exact AllReadyH.nil
        refine AllReadyH.cons rfl (fun K hK => ?_) ?_
        · go_simp
          obtain ⟨Wc, hWc, z, h9⟩ := alloc_pack hz #[.slice none 0 0] 103
          have h9l := hz.size
          rw [← hWc]
          clear hWc
          replace hb0 := hb0.below' z
          replace hb1 := hb1.below' z
          try replace h8 := h8.below' z
          try replace hu := hu.below z
          try replace hrc := hrc.below z
          replace hz := hz.trans (z.mono hz.size)
          clear z
          refine hK.out _ _ ?_ (fun hHeld => ?_)
          · exact ⟨hb0.cell 0, hb0.cell 1, hb0.cell 2, hb1.cell 0, hb1.cell 1, hb1.cell 2⟩
          clear hK K
          try simp only [Act.put, List.setIfInBounds_toArray, List.set_cons_zero, List.set_cons_succ]
          refine wpAnyH_ready (rs := [6, 9]) (by kernel_rfl) (by simp) ?_
          refine AllReadyH.cons rfl (fun K hK => ?_) ?_
          · rw [if_pos (by rfl)]
            refine wp_make_Own (.tmp 20) (.tmp 20) rfl elBool (n := n) (lo := V.heap.size) rfl rfl (by omega) (by simp only [maxLen]; omega) hz.size ?_
            intro ub Wc hub hu z
            clear hub
            rw [made_bools] at hu
            replace hb0 := hb0.below' z
            replace hb1 := hb1.below' z
            try replace h8 := h8.below' z
            try replace h9 := h9.below' z
            try replace hrc := hrc.below z
            replace hz := hz.trans (z.mono hz.size)
            clear z
            refine hK.out _ _ ?_ (fun hHeld => ?_)
            · exact ⟨hb0.cell 0, hb0.cell 1, hb0.cell 2, hb1.cell 0, hb1.cell 1, hb1.cell 2⟩
            clear hK K
            try simp only [Act.put, List.setIfInBounds_toArray, List.set_cons_zero, List.set_cons_succ]
            refine wpAnyH_ready (rs := [9]) (by kernel_rfl) (by simp) ?_
            refine AllReadyH.cons rfl (fun K hK => ?_) ?_
            · have cc := h8.cell 0
              have ff := h8.frozen 0
              go_simp
              obtain ⟨Wc, hWc, hz2, hn, kb, ko⟩ := set_pack hz h8 h8l (.pointer (some ⟨g, 0, none⟩))
              rw [← hWc]
              clear hWc cc ff
              replace hz := hz2
              replace h8 := hn
              replace hb0 := kb hb0 (by decide)
              replace hb1 := kb hb1 (by decide)
              replace h9 := kb h9 (by decide)
              try replace hu := ko hu (by decide)
              try replace hrc := hrc.packed kb ko (by decide) (by decide)
              clear kb ko
              refine hK.out _ _ ?_ (fun hHeld => ?_)
              · exact ⟨hb0.cell 0, hb0.cell 1, hb0.cell 2, hb1.cell 0, hb1.cell 1, hb1.cell 2⟩
              clear hK K
              try simp only [Act.put, List.setIfInBounds_toArray]
              refine wpAnyH_ready (rs := [10]) (by kernel_rfl) (by simp) ?_
              refine AllReadyH.cons rfl (fun K hK => ?_) ?_
              · have cc := h9.cell 0
                have ff := h9.frozen 0
                go_simp
                obtain ⟨Wc, hWc, hz2, hn, kb, ko⟩ := set_pack hz h9 h9l (.slice (some ⟨ub, 0, none⟩) n n)
                rw [← hWc]
                clear hWc cc ff
                replace hz := hz2
                replace h9 := hn
                replace hb0 := kb hb0 (by decide)
                replace hb1 := kb hb1 (by decide)
                replace h8 := kb h8 (by decide)
                try replace hu := ko hu (by decide)
                try replace hrc := hrc.packed kb ko (by decide) (by decide)
                clear kb ko
                refine hK.out _ _ ?_ (fun hHeld => ?_)
                · exact ⟨hb0.cell 0, hb0.cell 1, hb0.cell 2, hb1.cell 0, hb1.cell 1, hb1.cell 2⟩
                clear hK K
                try simp only [Act.put, List.setIfInBounds_toArray]
                refine wpAnyH_done (by kernel_rfl) ?_ _
                refine NoPanic.normal ?_
                go_wp2_with fail
                go_meet
                exact ⟨g, _, _, ub, rfl, rfl, hgV, h8l, h9l, hrc, h8, h9, hu, hz⟩
              exact AllReadyH.nil
            exact AllReadyH.nil
          refine AllReadyH.cons rfl (fun K hK => ?_) ?_
          · have cc := h8.cell 0
            have ff := h8.frozen 0
            go_simp
            obtain ⟨Wc, hWc, hz2, hn, kb, ko⟩ := set_pack hz h8 h8l (.pointer (some ⟨g, 0, none⟩))
            rw [← hWc]
            clear hWc cc ff
            replace hz := hz2
            replace h8 := hn
            replace hb0 := kb hb0 (by decide)
            replace hb1 := kb hb1 (by decide)
            replace h9 := kb h9 (by decide)
            try replace hu := ko hu (by decide)
            try replace hrc := hrc.packed kb ko (by decide) (by decide)
            clear kb ko
            refine hK.out _ _ ?_ (fun hHeld => ?_)
            · exact ⟨hb0.cell 0, hb0.cell 1, hb0.cell 2, hb1.cell 0, hb1.cell 1, hb1.cell 2⟩
            clear hK K
            try simp only [Act.put, List.setIfInBounds_toArray]
            refine wpAnyH_ready (rs := [6]) (by kernel_rfl) (by simp) ?_
            refine AllReadyH.cons rfl (fun K hK => ?_) ?_
            · rw [if_pos (by rfl)]
              refine wp_make_Own (.tmp 20) (.tmp 20) rfl elBool (n := n) (lo := V.heap.size) rfl rfl (by omega) (by simp only [maxLen]; omega) hz.size ?_
              intro ub Wc hub hu z
              clear hub
              rw [made_bools] at hu
              replace hb0 := hb0.below' z
              replace hb1 := hb1.below' z
              try replace h8 := h8.below' z
              try replace h9 := h9.below' z
              try replace hrc := hrc.below z
              replace hz := hz.trans (z.mono hz.size)
              clear z
              refine hK.out _ _ ?_ (fun hHeld => ?_)
              · exact ⟨hb0.cell 0, hb0.cell 1, hb0.cell 2, hb1.cell 0, hb1.cell 1, hb1.cell 2⟩
              clear hK K
              try simp only [Act.put, List.setIfInBounds_toArray, List.set_cons_zero, List.set_cons_succ]
              refine wpAnyH_ready (rs := [10]) (by kernel_rfl) (by simp) ?_
              refine AllReadyH.cons rfl (fun K hK => ?_) ?_
              · have cc := h9.cell 0
                have ff := h9.frozen 0
                go_simp
                obtain ⟨Wc, hWc, hz2, hn, kb, ko⟩ := set_pack hz h9 h9l (.slice (some ⟨ub, 0, none⟩) n n)
                rw [← hWc]
                clear hWc cc ff
                replace hz := hz2
                replace h9 := hn
                replace hb0 := kb hb0 (by decide)
                replace hb1 := kb hb1 (by decide)
                replace h8 := kb h8 (by decide)
                try replace hu := ko hu (by decide)
                try replace hrc := hrc.packed kb ko (by decide) (by decide)
                clear kb ko
                refine hK.out _ _ ?_ (fun hHeld => ?_)
                · exact ⟨hb0.cell 0, hb0.cell 1, hb0.cell 2, hb1.cell 0, hb1.cell 1, hb1.cell 2⟩
                clear hK K
                try simp only [Act.put, List.setIfInBounds_toArray]
                refine wpAnyH_done (by kernel_rfl) ?_ _
                refine NoPanic.normal ?_
                go_wp2_with fail
                go_meet
                exact ⟨g, _, _, ub, rfl, rfl, hgV, h8l, h9l, hrc, h8, h9, hu, hz⟩
              exact AllReadyH.nil
            exact AllReadyH.nil
          exact AllReadyH.nil
        exact AllReadyH.nil
      refine AllReadyH.cons rfl (fun K hK => ?_) ?_
      · go_simp
        obtain ⟨Wc, hWc, z, h9⟩ := alloc_pack hz #[.slice none 0 0] 103
        have h9l := hz.size
        rw [← hWc]
        clear hWc
        replace hb0 := hb0.below' z
        replace hb1 := hb1.below' z
        try replace h8 := h8.below' z
        try replace hu := hu.below z
        try replace hrc := hrc.below z
        replace hz := hz.trans (z.mono hz.size)
        clear z
        refine hK.out _ _ ?_ (fun hHeld => ?_)
        · exact ⟨hb0.cell 0, hb0.cell 1, hb0.cell 2, hb1.cell 0, hb1.cell 1, hb1.cell 2⟩
        clear hK K
        try simp only [Act.put, List.setIfInBounds_toArray, List.set_cons_zero, List.set_cons_succ]
        refine wpAnyH_ready (rs := [6, 7]) (by kernel_rfl) (by simp) ?_
        refine AllReadyH.cons rfl (fun K hK => ?_) ?_
        · rw [if_pos (by rfl)]
          refine wp_make_Own (.tmp 20) (.tmp 20) rfl elBool (n := n) (lo := V.heap.size) rfl rfl (by omega) (by simp only [maxLen]; omega) hz.size ?_
          intro ub Wc hub hu z
          clear hub
          rw [made_bools] at hu
          replace hb0 := hb0.below' z
          replace hb1 := hb1.below' z
          try replace h8 := h8.below' z
          try replace h9 := h9.below' z
          try replace hrc := hrc.below z
          replace hz := hz.trans (z.mono hz.size)
          clear z
          refine hK.out _ _ ?_ (fun hHeld => ?_)
          · exact ⟨hb0.cell 0, hb0.cell 1, hb0.cell 2, hb1.cell 0, hb1.cell 1, hb1.cell 2⟩
          clear hK K
          try simp only [Act.put, List.setIfInBounds_toArray, List.set_cons_zero, List.set_cons_succ]
          refine wpAnyH_ready (rs := [7]) (by kernel_rfl) (by simp) ?_
          refine AllReadyH.cons rfl (fun K hK => ?_) ?_
          · go_simp
            obtain ⟨Wc, hWc, z, h8⟩ := alloc_pack hz #[.pointer none] 98
            have h8l := hz.size
            rw [← hWc]
            clear hWc
            replace hb0 := hb0.below' z
            replace hb1 := hb1.below' z
            try replace h9 := h9.below' z
            try replace hu := hu.below z
            try replace hrc := hrc.below z
            replace hz := hz.trans (z.mono hz.size)
            clear z
            refine hK.out _ _ ?_ (fun hHeld => ?_)
            · exact ⟨hb0.cell 0, hb0.cell 1, hb0.cell 2, hb1.cell 0, hb1.cell 1, hb1.cell 2⟩
            clear hK K
            try simp only [Act.put, List.setIfInBounds_toArray, List.set_cons_zero, List.set_cons_succ]
            refine wpAnyH_ready (rs := [9]) (by kernel_rfl) (by simp) ?_
            refine AllReadyH.cons rfl (fun K hK => ?_) ?_
            · have cc := h8.cell 0
              have ff := h8.frozen 0
              go_simp
              obtain ⟨Wc, hWc, hz2, hn, kb, ko⟩ := set_pack hz h8 h8l (.pointer (some ⟨g, 0, none⟩))
              rw [← hWc]
              clear hWc cc ff
              replace hz := hz2
              replace h8 := hn
              replace hb0 := kb hb0 (by decide)
              replace hb1 := kb hb1 (by decide)
              replace h9 := kb h9 (by decide)
              try replace hu := ko hu (by decide)
              try replace hrc := hrc.packed kb ko (by decide) (by decide)
              clear kb ko
              refine hK.out _ _ ?_ (fun hHeld => ?_)
              · exact ⟨hb0.cell 0, hb0.cell 1, hb0.cell 2, hb1.cell 0, hb1.cell 1, hb1.cell 2⟩
              clear hK K
              try simp only [Act.put, List.setIfInBounds_toArray]
              refine wpAnyH_ready (rs := [10]) (by kernel_rfl) (by simp) ?_
              refine AllReadyH.cons rfl (fun K hK => ?_) ?_
              · have cc := h9.cell 0
                have ff := h9.frozen 0
                go_simp
                obtain ⟨Wc, hWc, hz2, hn, kb, ko⟩ := set_pack hz h9 h9l (.slice (some ⟨ub, 0, none⟩) n n)
                rw [← hWc]
                clear hWc cc ff
                replace hz := hz2
                replace h9 := hn
                replace hb0 := kb hb0 (by decide)
                replace hb1 := kb hb1 (by decide)
                replace h8 := kb h8 (by decide)
                try replace hu := ko hu (by decide)
                try replace hrc := hrc.packed kb ko (by decide) (by decide)
                clear kb ko
                refine hK.out _ _ ?_ (fun hHeld => ?_)
                · exact ⟨hb0.cell 0, hb0.cell 1, hb0.cell 2, hb1.cell 0, hb1.cell 1, hb1.cell 2⟩
                clear hK K
                try simp only [Act.put, List.setIfInBounds_toArray]
                refine wpAnyH_done (by kernel_rfl) ?_ _
                refine NoPanic.normal ?_
                go_wp2_with fail
                go_meet
                exact ⟨g, _, _, ub, rfl, rfl, hgV, h8l, h9l, hrc, h8, h9, hu, hz⟩
              exact AllReadyH.nil
            exact AllReadyH.nil
          exact AllReadyH.nil
        refine AllReadyH.cons rfl (fun K hK => ?_) ?_
        · go_simp
          obtain ⟨Wc, hWc, z, h8⟩ := alloc_pack hz #[.pointer none] 98
          have h8l := hz.size
          rw [← hWc]
          clear hWc
          replace hb0 := hb0.below' z
          replace hb1 := hb1.below' z
          try replace h9 := h9.below' z
          try replace hu := hu.below z
          try replace hrc := hrc.below z
          replace hz := hz.trans (z.mono hz.size)
          clear z
          refine hK.out _ _ ?_ (fun hHeld => ?_)
          · exact ⟨hb0.cell 0, hb0.cell 1, hb0.cell 2, hb1.cell 0, hb1.cell 1, hb1.cell 2⟩
          clear hK K
          try simp only [Act.put, List.setIfInBounds_toArray, List.set_cons_zero, List.set_cons_succ]
          refine wpAnyH_ready (rs := [6, 9]) (by kernel_rfl) (by simp) ?_
          refine AllReadyH.cons rfl (fun K hK => ?_) ?_
          · rw [if_pos (by rfl)]
            refine wp_make_Own (.tmp 20) (.tmp 20) rfl elBool (n := n) (lo := V.heap.size) rfl rfl (by omega) (by simp only [maxLen]; omega) hz.size ?_
            intro ub Wc hub hu z
            clear hub
            rw [made_bools] at hu
            replace hb0 := hb0.below' z
            replace hb1 := hb1.below' z
            try replace h8 := h8.below' z
            try replace h9 := h9.below' z
            try replace hrc := hrc.below z
            replace hz := hz.trans (z.mono hz.size)
            clear z
            refine hK.out _ _ ?_ (fun hHeld => ?_)
            · exact ⟨hb0.cell 0, hb0.cell 1, hb0.cell 2, hb1.cell 0, hb1.cell 1, hb1.cell 2⟩
            clear hK K
            try simp only [Act.put, List.setIfInBounds_toArray, List.set_cons_zero, List.set_cons_succ]
            refine wpAnyH_ready (rs := [9]) (by kernel_rfl) (by simp) ?_
            refine AllReadyH.cons rfl (fun K hK => ?_) ?_
            · have cc := h8.cell 0
              have ff := h8.frozen 0
              go_simp
              obtain ⟨Wc, hWc, hz2, hn, kb, ko⟩ := set_pack hz h8 h8l (.pointer (some ⟨g, 0, none⟩))
              rw [← hWc]
              clear hWc cc ff
              replace hz := hz2
              replace h8 := hn
              replace hb0 := kb hb0 (by decide)
              replace hb1 := kb hb1 (by decide)
              replace h9 := kb h9 (by decide)
              try replace hu := ko hu (by decide)
              try replace hrc := hrc.packed kb ko (by decide) (by decide)
              clear kb ko
              refine hK.out _ _ ?_ (fun hHeld => ?_)
              · exact ⟨hb0.cell 0, hb0.cell 1, hb0.cell 2, hb1.cell 0, hb1.cell 1, hb1.cell 2⟩
              clear hK K
              try simp only [Act.put, List.setIfInBounds_toArray]
              refine wpAnyH_ready (rs := [10]) (by kernel_rfl) (by simp) ?_
              refine AllReadyH.cons rfl (fun K hK => ?_) ?_
              · have cc := h9.cell 0
                have ff := h9.frozen 0
                go_simp
                obtain ⟨Wc, hWc, hz2, hn, kb, ko⟩ := set_pack hz h9 h9l (.slice (some ⟨ub, 0, none⟩) n n)
                rw [← hWc]
                clear hWc cc ff
                replace hz := hz2
                replace h9 := hn
                replace hb0 := kb hb0 (by decide)
                replace hb1 := kb hb1 (by decide)
                replace h8 := kb h8 (by decide)
                try replace hu := ko hu (by decide)
                try replace hrc := hrc.packed kb ko (by decide) (by decide)
                clear kb ko
                refine hK.out _ _ ?_ (fun hHeld => ?_)
                · exact ⟨hb0.cell 0, hb0.cell 1, hb0.cell 2, hb1.cell 0, hb1.cell 1, hb1.cell 2⟩
                clear hK K
                try simp only [Act.put, List.setIfInBounds_toArray]
                refine wpAnyH_done (by kernel_rfl) ?_ _
                refine NoPanic.normal ?_
                go_wp2_with fail
                go_meet
                exact ⟨g, _, _, ub, rfl, rfl, hgV, h8l, h9l, hrc, h8, h9, hu, hz⟩
              exact AllReadyH.nil
            exact AllReadyH.nil
          refine AllReadyH.cons rfl (fun K hK => ?_) ?_
          · have cc := h8.cell 0
            have ff := h8.frozen 0
            go_simp
            obtain ⟨Wc, hWc, hz2, hn, kb, ko⟩ := set_pack hz h8 h8l (.pointer (some ⟨g, 0, none⟩))
            rw [← hWc]
            clear hWc cc ff
            replace hz := hz2
            replace h8 := hn
            replace hb0 := kb hb0 (by decide)
            replace hb1 := kb hb1 (by decide)
            replace h9 := kb h9 (by decide)
            try replace hu := ko hu (by decide)
            try replace hrc := hrc.packed kb ko (by decide) (by decide)
            clear kb ko
            refine hK.out _ _ ?_ (fun hHeld => ?_)
            · exact ⟨hb0.cell 0, hb0.cell 1, hb0.cell 2, hb1.cell 0, hb1.cell 1, hb1.cell 2⟩
            clear hK K
            try simp only [Act.put, List.setIfInBounds_toArray]
            refine wpAnyH_ready (rs := [6]) (by kernel_rfl) (by simp) ?_
            refine AllReadyH.cons rfl (fun K hK => ?_) ?_
            · rw [if_pos (by rfl)]
              refine wp_make_Own (.tmp 20) (.tmp 20) rfl elBool (n := n) (lo := V.heap.size) rfl rfl (by omega) (by simp only [maxLen]; omega) hz.size ?_
              intro ub Wc hub hu z
              clear hub
              rw [made_bools] at hu
              replace hb0 := hb0.below' z
              replace hb1 := hb1.below' z
              try replace h8 := h8.below' z
              try replace h9 := h9.below' z
              try replace hrc := hrc.below z
              replace hz := hz.trans (z.mono hz.size)
              clear z
              refine hK.out _ _ ?_ (fun hHeld => ?_)
              · exact ⟨hb0.cell 0, hb0.cell 1, hb0.cell 2, hb1.cell 0, hb1.cell 1, hb1.cell 2⟩
              clear hK K
              try simp only [Act.put, List.setIfInBounds_toArray, List.set_cons_zero, List.set_cons_succ]
              refine wpAnyH_ready (rs := [10]) (by kernel_rfl) (by simp) ?_
              refine AllReadyH.cons rfl (fun K hK => ?_) ?_
              · have cc := h9.cell 0
                have ff := h9.frozen 0
                go_simp
                obtain ⟨Wc, hWc, hz2, hn, kb, ko⟩ := set_pack hz h9 h9l (.slice (some ⟨ub, 0, none⟩) n n)
                rw [← hWc]
                clear hWc cc ff
                replace hz := hz2
                replace h9 := hn
                replace hb0 := kb hb0 (by decide)
                replace hb1 := kb hb1 (by decide)
                replace h8 := kb h8 (by decide)
                try replace hu := ko hu (by decide)
                try replace hrc := hrc.packed kb ko (by decide) (by decide)
                clear kb ko
                refine hK.out _ _ ?_ (fun hHeld => ?_)
                · exact ⟨hb0.cell 0, hb0.cell 1, hb0.cell 2, hb1.cell 0, hb1.cell 1, hb1.cell 2⟩
                clear hK K
                try simp only [Act.put, List.setIfInBounds_toArray]
                refine wpAnyH_done (by kernel_rfl) ?_ _
                refine NoPanic.normal ?_
                go_wp2_with fail
                go_meet
                exact ⟨g, _, _, ub, rfl, rfl, hgV, h8l, h9l, hrc, h8, h9, hu, hz⟩
              exact AllReadyH.nil
            exact AllReadyH.nil
          exact AllReadyH.nil
        exact AllReadyH.nil
      exact AllReadyH.nil
    refine AllReadyH.cons rfl (fun K hK => ?_) ?_
    · rw [if_pos (by rfl)]
      refine wp_make_Own (.tmp 20) (.tmp 20) rfl elBool (n := n) (lo := V.heap.size) rfl rfl (by omega) (by simp only [maxLen]; omega) hz.size ?_
      intro ub Wc hub hu z
      clear hub
      rw [made_bools] at hu
      replace hb0 := hb0.below' z
      replace hb1 := hb1.below' z
      try replace h8 := h8.below' z
      try replace h9 := h9.below' z
      try replace hrc := hrc.below z
      replace hz := hz.trans (z.mono hz.size)
      clear z
      refine hK.out _ _ ?_ (fun hHeld => ?_)
      · exact ⟨hb0.cell 0, hb0.cell 1, hb0.cell 2, hb1.cell 0, hb1.cell 1, hb1.cell 2⟩
      clear hK K
      try simp only [Act.put, List.setIfInBounds_toArray, List.set_cons_zero, List.set_cons_succ]
      refine wpAnyH_ready (rs := [2, 7, 8]) (by kernel_rfl) (by simp) ?_
      refine AllReadyH.cons rfl (fun K hK => ?_) ?_
      · go_simp
        refine (runnerOf_any _ _ _ _ _ _ _ _ _ xs _ _ _ ys _ (HX.out.below (y0.trans (hz.mono hv0))) (HY.out.below (y0.trans (hz.mono hv0))) hm hl).mono ?_
        rintro e Wc ⟨g, L, cl, R, cr, rfl, hgW, hrun, ol, or_, hap, z⟩
        have hrc := (NewRunner.runC hrun ol or_ hap).lo_le hz.size
        have hgV := Nat.le_trans hz.size hgW
        replace hb0 := hb0.below' z
        replace hb1 := hb1.below' z
        try replace h8 := h8.below' z
        try replace h9 := h9.below' z
        try replace hu := hu.below z
        replace hz := hz.trans (z.mono hz.size)
        clear hap hrun ol or_ z hgW
        refine hK.out _ _ ?_ (fun hHeld => ?_)
        · exact ⟨hb0.cell 0, hb0.cell 1, hb0.cell 2, hb1.cell 0, hb1.cell 1, hb1.cell 2⟩
        clear hK K
        try simp only [Act.put, List.setIfInBounds_toArray, List.set_cons_zero, List.set_cons_succ]
        refine wpAnyH_ready (rs := [7, 8]) (by kernel_rfl) (by simp) ?_
        refine AllReadyH.cons rfl (fun K hK => ?_) ?_
        · go_simp
          obtain ⟨Wc, hWc, z, h8⟩ := alloc_pack hz #[.pointer none] 98
          have h8l := hz.size
          rw [← hWc]
          clear hWc
          replace hb0 := hb0.below' z
          replace hb1 := hb1.below' z
          try replace h9 := h9.below' z
          try replace hu := hu.below z
          try replace hrc := hrc.below z
          replace hz := hz.trans (z.mono hz.size)
          clear z
          refine hK.out _ _ ?_ (fun hHeld => ?_)
          · exact ⟨hb0.cell 0, hb0.cell 1, hb0.cell 2, hb1.cell 0, hb1.cell 1, hb1.cell 2⟩
          clear hK K
          try simp only [Act.put, List.setIfInBounds_toArray, List.set_cons_zero, List.set_cons_succ]
          refine wpAnyH_ready (rs := [8]) (by kernel_rfl) (by simp) ?_
          refine AllReadyH.cons rfl (fun K hK => ?_) ?_
          · go_simp
            obtain ⟨Wc, hWc, z, h9⟩ := alloc_pack hz #[.slice none 0 0] 103
            have h9l := hz.size
            rw [← hWc]
            clear hWc
            replace hb0 := hb0.below' z
            replace hb1 := hb1.below' z
            try replace h8 := h8.below' z
            try replace hu := hu.below z
            try replace hrc := hrc.below z
            replace hz := hz.trans (z.mono hz.size)
            clear z
            refine hK.out _ _ ?_ (fun hHeld => ?_)
            · exact ⟨hb0.cell 0, hb0.cell 1, hb0.cell 2, hb1.cell 0, hb1.cell 1, hb1.cell 2⟩
            clear hK K
            try simp only [Act.put, List.setIfInBounds_toArray, List.set_cons_zero, List.set_cons_succ]
            refine wpAnyH_ready (rs := [9]) (by kernel_rfl) (by simp) ?_
            refine AllReadyH.cons rfl (fun K hK => ?_) ?_
            · have cc := h8.cell 0
              have ff := h8.frozen 0
              go_simp
              obtain ⟨Wc, hWc, hz2, hn, kb, ko⟩ := set_pack hz h8 h8l (.pointer (some ⟨g, 0, none⟩))
              rw [← hWc]
              clear hWc cc ff
              replace hz := hz2
              replace h8 := hn
              replace hb0 := kb hb0 (by decide)
              replace hb1 := kb hb1 (by decide)
              replace h9 := kb h9 (by decide)
              try replace hu := ko hu (by decide)
              try replace hrc := hrc.packed kb ko (by decide) (by decide)
              clear kb ko
              refine hK.out _ _ ?_ (fun hHeld => ?_)
              · exact ⟨hb0.cell 0, hb0.cell 1, hb0.cell 2, hb1.cell 0, hb1.cell 1, hb1.cell 2⟩
              clear hK K
              try simp only [Act.put, List.setIfInBounds_toArray]
              refine wpAnyH_ready (rs := [10]) (by kernel_rfl) (by simp) ?_
              refine AllReadyH.cons rfl (fun K hK => ?_) ?_
              · have cc := h9.cell 0
                have ff := h9.frozen 0
                go_simp
                obtain ⟨Wc, hWc, hz2, hn, kb, ko⟩ := set_pack hz h9 h9l (.slice (some ⟨ub, 0, none⟩) n n)
                rw [← hWc]
                clear hWc cc ff
                replace hz := hz2
                replace h9 := hn
                replace hb0 := kb hb0 (by decide)
                replace hb1 := kb hb1 (by decide)
                replace h8 := kb h8 (by decide)
                try replace hu := ko hu (by decide)
                try replace hrc := hrc.packed kb ko (by decide) (by decide)
                clear kb ko
                refine hK.out _ _ ?_ (fun hHeld => ?_)
                · exact ⟨hb0.cell 0, hb0.cell 1, hb0.cell 2, hb1.cell 0, hb1.cell 1, hb1.cell 2⟩
                clear hK K
                try simp only [Act.put, List.setIfInBounds_toArray]
                refine wpAnyH_done (by kernel_rfl) ?_ _
                refine NoPanic.normal ?_
                go_wp2_with fail
                go_meet
                exact ⟨g, _, _, ub, rfl, rfl, hgV, h8l, h9l, hrc, h8, h9, hu, hz⟩
              exact AllReadyH.nil
            exact AllReadyH.nil
          exact AllReadyH.nil
        refine AllReadyH.cons rfl (fun K hK => ?_) ?_
        · go_simp
          obtain ⟨Wc, hWc, z, h9⟩ := alloc_pack hz #[.slice none 0 0] 103
          have h9l := hz.size
          rw [← hWc]
          clear hWc
          replace hb0 := hb0.below' z
          replace hb1 := hb1.below' z
          try replace h8 := h8.below' z
          try replace hu := hu.below z
          try replace hrc := hrc.below z
          replace hz := hz.trans (z.mono hz.size)
          clear z
          refine hK.out _ _ ?_ (fun hHeld => ?_)
          · exact ⟨hb0.cell 0, hb0.cell 1, hb0.cell 2, hb1.cell 0, hb1.cell 1, hb1.cell 2⟩
          clear hK K
          try simp only [Act.put, List.setIfInBounds_toArray, List.set_cons_zero, List.set_cons_succ]
          refine wpAnyH_ready (rs := [7]) (by kernel_rfl) (by simp) ?_
          refine AllReadyH.cons rfl (fun K hK => ?_) ?_
          · go_simp
            obtain ⟨Wc, hWc, z, h8⟩ := alloc_pack hz #[.pointer none] 98
            have h8l := hz.size
            rw [← hWc]
            clear hWc
            replace hb0 := hb0.below' z
            replace hb1 := hb1.below' z
            try replace h9 := h9.below' z
            try replace hu := hu.below z
            try replace hrc := hrc.below z
            replace hz := hz.trans (z.mono hz.size)
            clear z
            refine hK.out _ _ ?_ (fun hHeld => ?_)
            · exact ⟨hb0.cell 0, hb0.cell 1, hb0.cell 2, hb1.cell 0, hb1.cell 1, hb1.cell 2⟩
            clear hK K
            try simp only [Act.put, List.setIfInBounds_toArray, List.set_cons_zero, List.set_cons_succ]
            refine wpAnyH_ready (rs := [9]) (by kernel_rfl) (by simp) ?_
            refine AllReadyH.cons rfl (fun K hK => ?_) ?_
            · have cc := h8.cell 0
              have ff := h8.frozen 0
              go_simp
              obtain ⟨Wc, hWc, hz2, hn, kb, ko⟩ := set_pack hz h8 h8l (.pointer (some ⟨g, 0, none⟩))
              rw [← hWc]
              clear hWc cc ff
              replace hz := hz2
              replace h8 := hn
              replace hb0 := kb hb0 (by decide)
              replace hb1 := kb hb1 (by decide)
              replace h9 := kb h9 (by decide)
              try replace hu := ko hu (by decide)
              try replace hrc := hrc.packed kb ko (by decide) (by decide)
              clear kb ko
              refine hK.out _ _ ?_ (fun hHeld => ?_)
              · exact ⟨hb0.cell 0, hb0.cell 1, hb0.cell 2, hb1.cell 0, hb1.cell 1, hb1.cell 2⟩
              clear hK K
              try simp only [Act.put, List.setIfInBounds_toArray]
              refine wpAnyH_ready (rs := [10]) (by kernel_rfl) (by simp) ?_
              refine AllReadyH.cons rfl (fun K hK => ?_) ?_
              · have cc := h9.cell 0
                have ff := h9.frozen 0
                go_simp
                obtain ⟨Wc, hWc, hz2, hn, kb, ko⟩ := set_pack hz h9 h9l (.slice (some ⟨ub, 0, none⟩) n n)
                rw [← hWc]
                clear hWc cc ff
                replace hz := hz2
                replace h9 := hn
                replace hb0 := kb hb0 (by decide)
                replace hb1 := kb hb1 (by decide)
                replace h8 := kb h8 (by decide)
                try replace hu := ko hu (by decide)
                try replace hrc := hrc.packed kb ko (by decide) (by decide)
                clear kb ko
                refine hK.out _ _ ?_ (fun hHeld => ?_)
                · exact ⟨hb0.cell 0, hb0.cell 1, hb0.cell 2, hb1.cell 0, hb1.cell 1, hb1.cell 2⟩
                clear hK K
                try simp only [Act.put, List.setIfInBounds_toArray]
                refine wpAnyH_done (by kernel_rfl) ?_ _
                refine NoPanic.normal ?_
                go_wp2_with fail
                go_meet
                exact ⟨g, _, _, ub, rfl, rfl, hgV, h8l, h9l, hrc, h8, h9, hu, hz⟩
              exact AllReadyH.nil
            exact AllReadyH.nil
          exact AllReadyH.nil
        exact AllReadyH.nil
      refine AllReadyH.cons rfl (fun K hK => ?_) ?_
      · go_simp
        obtain ⟨Wc, hWc, z, h8⟩ := alloc_pack hz #[.pointer none] 98
        have h8l := hz.size
        rw [← hWc]
        clear hWc
        replace hb0 := hb0.below' z
        replace hb1 := hb1.below' z
        try replace h9 := h9.below' z
        try replace hu := hu.below z
        try replace hrc := hrc.below z
        replace hz := hz.trans (z.mono hz.size)
        clear z
        refine hK.out _ _ ?_ (fun hHeld => ?_)
        · exact ⟨hb0.cell 0, hb0.cell 1, hb0.cell 2, hb1.cell 0, hb1.cell 1, hb1.cell 2⟩
        clear hK K
        try simp only [Act.put, List.setIfInBounds_toArray, List.set_cons_zero, List.set_cons_succ]
        refine wpAnyH_ready (rs := [2, 8]) (by kernel_rfl) (by simp) ?_
        refine AllReadyH.cons rfl (fun K hK => ?_) ?_
        · go_simp
          refine (runnerOf_any _ _ _ _ _ _ _ _ _ xs _ _ _ ys _ (HX.out.below (y0.trans (hz.mono hv0))) (HY.out.below (y0.trans (hz.mono hv0))) hm hl).mono ?_
          rintro e Wc ⟨g, L, cl, R, cr, rfl, hgW, hrun, ol, or_, hap, z⟩
          have hrc := (NewRunner.runC hrun ol or_ hap).lo_le hz.size
          have hgV := Nat.le_trans hz.size hgW
          replace hb0 := hb0.below' z
          replace hb1 := hb1.below' z
          try replace h8 := h8.below' z
          try replace h9 := h9.below' z
          try replace hu := hu.below z
          replace hz := hz.trans (z.mono hz.size)
          clear hap hrun ol or_ z hgW
          refine hK.out _ _ ?_ (fun hHeld => ?_)
          · exact ⟨hb0.cell 0, hb0.cell 1, hb0.cell 2, hb1.cell 0, hb1.cell 1, hb1.cell 2⟩
          clear hK K
          try simp only [Act.put, List.setIfInBounds_toArray, List.set_cons_zero, List.set_cons_succ]
          refine wpAnyH_ready (rs := [8]) (by kernel_rfl) (by simp) ?_
          refine AllReadyH.cons rfl (fun K hK => ?_) ?_
          · go_simp
            obtain ⟨Wc, hWc, z, h9⟩ := alloc_pack hz #[.slice none 0 0] 103
            have h9l := hz.size
            rw [← hWc]
            clear hWc
            replace hb0 := hb0.below' z
            replace hb1 := hb1.below' z
            try replace h8 := h8.below' z
            try replace hu := hu.below z
            try replace hrc := hrc.below z
            replace hz := hz.trans (z.mono hz.size)
            clear z
            refine hK.out _ _ ?_ (fun hHeld => ?_)
            · exact ⟨hb0.cell 0, hb0.cell 1, hb0.cell 2, hb1.cell 0, hb1.cell 1, hb1.cell 2⟩
            clear hK K
            try simp only [Act.put, List.setIfInBounds_toArray, List.set_cons_zero, List.set_cons_succ]
            refine wpAnyH_ready (rs := [9]) (by kernel_rfl) (by simp) ?_
            refine AllReadyH.cons rfl (fun K hK => ?_) ?_
            · have cc := h8.cell 0
              have ff := h8.frozen 0
              go_simp
              obtain ⟨Wc, hWc, hz2, hn, kb, ko⟩ := set_pack hz h8 h8l (.pointer (some ⟨g, 0, none⟩))
              rw [← hWc]
              clear hWc cc ff
              replace hz := hz2
              replace h8 := hn
              replace hb0 := kb hb0 (by decide)
              replace hb1 := kb hb1 (by decide)
              replace h9 := kb h9 (by decide)
              try replace hu := ko hu (by decide)
              try replace hrc := hrc.packed kb ko (by decide) (by decide)
              clear kb ko
              refine hK.out _ _ ?_ (fun hHeld => ?_)
              · exact ⟨hb0.cell 0, hb0.cell 1, hb0.cell 2, hb1.cell 0, hb1.cell 1, hb1.cell 2⟩
              clear hK K
              try simp only [Act.put, List.setIfInBounds_toArray]
              refine wpAnyH_ready (rs := [10]) (by kernel_rfl) (by simp) ?_
              refine AllReadyH.cons rfl (fun K hK => ?_) ?_
              · have cc := h9.cell 0
                have ff := h9.frozen 0
                go_simp
                obtain ⟨Wc, hWc, hz2, hn, kb, ko⟩ := set_pack hz h9 h9l (.slice (some ⟨ub, 0, none⟩) n n)
                rw [← hWc]
                clear hWc cc ff
                replace hz := hz2
                replace h9 := hn
                replace hb0 := kb hb0 (by decide)
                replace hb1 := kb hb1 (by decide)
                replace h8 := kb h8 (by decide)
                try replace hu := ko hu (by decide)
                try replace hrc := hrc.packed kb ko (by decide) (by decide)
                clear kb ko
                refine hK.out _ _ ?_ (fun hHeld => ?_)
                · exact ⟨hb0.cell 0, hb0.cell 1, hb0.cell 2, hb1.cell 0, hb1.cell 1, hb1.cell 2⟩
                clear hK K
                try simp only [Act.put, List.setIfInBounds_toArray]
                refine wpAnyH_done (by kernel_rfl) ?_ _
                refine NoPanic.normal ?_
                go_wp2_with fail
                go_meet
                exact ⟨g, _, _, ub, rfl, rfl, hgV, h8l, h9l, hrc, h8, h9, hu, hz⟩
              exact AllReadyH.nil
            exact AllReadyH.nil
          exact AllReadyH.nil
        refine AllReadyH.cons rfl (fun K hK => ?_) ?_
        · go_simp
          obtain ⟨Wc, hWc, z, h9⟩ := alloc_pack hz #[.slice none 0 0] 103
          have h9l := hz.size
          rw [← hWc]
          clear hWc
          replace hb0 := hb0.below' z
          replace hb1 := hb1.below' z
          try replace h8 := h8.below' z
          try replace hu := hu.below z
          try replace hrc := hrc.below z
          replace hz := hz.trans (z.mono hz.size)
          clear z
          refine hK.out _ _ ?_ (fun hHeld => ?_)
          · exact ⟨hb0.cell 0, hb0.cell 1, hb0.cell 2, hb1.cell 0, hb1.cell 1, hb1.cell 2⟩
          clear hK K
          try simp only [Act.put, List.setIfInBounds_toArray, List.set_cons_zero, List.set_cons_succ]
          refine wpAnyH_ready (rs := [2]) (by kernel_rfl) (by simp) ?_
          refine AllReadyH.cons rfl (fun K hK => ?_) ?_
          · go_simp
            refine (runnerOf_any _ _ _ _ _ _ _ _ _ xs _ _ _ ys _ (HX.out.below (y0.trans (hz.mono hv0))) (HY.out.below (y0.trans (hz.mono hv0))) hm hl).mono ?_
            rintro e Wc ⟨g, L, cl, R, cr, rfl, hgW, hrun, ol, or_, hap, z⟩
            have hrc := (NewRunner.runC hrun ol or_ hap).lo_le hz.size
            have hgV := Nat.le_trans hz.size hgW
            replace hb0 := hb0.below' z
            replace hb1 := hb1.below' z
            try replace h8 := h8.below' z
            try replace h9 := h9.below' z
            try replace hu := hu.below z
            replace hz := hz.trans (z.mono hz.size)
            clear hap hrun ol or_ z hgW
            refine hK.out _ _ ?_ (fun hHeld => ?_)
            · exact ⟨hb0.cell 0, hb0.cell 1, hb0.cell 2, hb1.cell 0, hb1.cell 1, hb1.cell 2⟩
            clear hK K
            try simp only [Act.put, List.setIfInBounds_toArray, List.set_cons_zero, List.set_cons_succ]
            refine wpAnyH_ready (rs := [9]) (by kernel_rfl) (by simp) ?_
            refine AllReadyH.cons rfl (fun K hK => ?_) ?_
            · have cc := h8.cell 0
              have ff := h8.frozen 0
              go_simp
              obtain ⟨Wc, hWc, hz2, hn, kb, ko⟩ := set_pack hz h8 h8l (.pointer (some ⟨g, 0, none⟩))
              rw [← hWc]
              clear hWc cc ff
              replace hz := hz2
              replace h8 := hn
              replace hb0 := kb hb0 (by decide)
              replace hb1 := kb hb1 (by decide)
              replace h9 := kb h9 (by decide)
              try replace hu := ko hu (by decide)
              try replace hrc := hrc.packed kb ko (by decide) (by decide)
              clear kb ko
              refine hK.out _ _ ?_ (fun hHeld => ?_)
              · exact ⟨hb0.cell 0, hb0.cell 1, hb0.cell 2, hb1.cell 0, hb1.cell 1, hb1.cell 2⟩
              clear hK K
              try simp only [Act.put, List.setIfInBounds_toArray]
              refine wpAnyH_ready (rs := [10]) (by kernel_rfl) (by simp) ?_
              refine AllReadyH.cons rfl (fun K hK => ?_) ?_
              · have cc := h9.cell 0
                have ff := h9.frozen 0
                go_simp
                obtain ⟨Wc, hWc, hz2, hn, kb, ko⟩ := set_pack hz h9 h9l (.slice (some ⟨ub, 0, none⟩) n n)
                rw [← hWc]
                clear hWc cc ff
                replace hz := hz2
                replace h9 := hn
                replace hb0 := kb hb0 (by decide)
                replace hb1 := kb hb1 (by decide)
                replace h8 := kb h8 (by decide)
                try replace hu := ko hu (by decide)
                try replace hrc := hrc.packed kb ko (by decide) (by decide)
                clear kb ko
                refine hK.out _ _ ?_ (fun hHeld => ?_)
                · exact ⟨hb0.cell 0, hb0.cell 1, hb0.cell 2, hb1.cell 0, hb1.cell 1, hb1.cell 2⟩
                clear hK K
                try simp only [Act.put, List.setIfInBounds_toArray]
                refine wpAnyH_done (by kernel_rfl) ?_ _
                refine NoPanic.normal ?_
                go_wp2_with fail
                go_meet
                exact ⟨g, _, _, ub, rfl, rfl, hgV, h8l, h9l, hrc, h8, h9, hu, hz⟩
              exact AllReadyH.nil
            exact AllReadyH.nil
          exact AllReadyH.nil
        exact AllReadyH.nil
      refine AllReadyH.cons rfl (fun K hK => ?_) ?_
      · go_simp
        obtain ⟨Wc, hWc, z, h9⟩ := alloc_pack hz #[.slice none 0 0] 103
        have h9l := hz.size
        rw [← hWc]
        clear hWc
        replace hb0 := hb0.below' z
        replace hb1 := hb1.below' z
        try replace h8 := h8.below' z
        try replace hu := hu.below z
        try replace hrc := hrc.below z
        replace hz := hz.trans (z.mono hz.size)
        clear z
        refine hK.out _ _ ?_ (fun hHeld => ?_)
        · exact ⟨hb0.cell 0, hb0.cell 1, hb0.cell 2, hb1.cell 0, hb1.cell 1, hb1.cell 2⟩
        clear hK K
        try simp only [Act.put, List.setIfInBounds_toArray, List.set_cons_zero, List.set_cons_succ]
        refine wpAnyH_ready (rs := [2, 7]) (by kernel_rfl) (by simp) ?_
        refine AllReadyH.cons rfl (fun K hK => ?_) ?_
        · go_simp
          refine (runnerOf_any _ _ _ _ _ _ _ _ _ xs _ _ _ ys _ (HX.out.below (y0.trans (hz.mono hv0))) (HY.out.below (y0.trans (hz.mono hv0))) hm hl).mono ?_
          rintro e Wc ⟨g, L, cl, R, cr, rfl, hgW, hrun, ol, or_, hap, z⟩
          have hrc := (NewRunner.runC hrun ol or_ hap).lo_le hz.size
          have hgV := Nat.le_trans hz.size hgW
          replace hb0 := hb0.below' z
          replace hb1 := hb1.below' z
          try replace h8 := h8.below' z
          try replace h9 := h9.below' z
          try replace hu := hu.below z
          replace hz := hz.trans (z.mono hz.size)
          clear hap hrun ol or_ z hgW
          refine hK.out _ _ ?_ (fun hHeld => ?_)
          · exact ⟨hb0.cell 0, hb0.cell 1, hb0.cell 2, hb1.cell 0, hb1.cell 1, hb1.cell 2⟩
          clear hK K
          try simp only [Act.put, List.setIfInBounds_toArray, List.set_cons_zero, List.set_cons_succ]
          refine wpAnyH_ready (rs := [7]) (by kernel_rfl) (by simp) ?_
          refine AllReadyH.cons rfl (fun K hK => ?_) ?_
          · go_simp
            obtain ⟨Wc, hWc, z, h8⟩ := alloc_pack hz #[.pointer none] 98
            have h8l := hz.size
            rw [← hWc]
            clear hWc
            replace hb0 := hb0.below' z
            replace hb1 := hb1.below' z
            try replace h9 := h9.below' z
            try replace hu := hu.below z
            try replace hrc := hrc.below z
            replace hz := hz.trans (z.mono hz.size)
            clear z
            refine hK.out _ _ ?_ (fun hHeld => ?_)
            · exact ⟨hb0.cell 0, hb0.cell 1, hb0.cell 2, hb1.cell 0, hb1.cell 1, hb1.cell 2⟩
            clear hK K
            try simp only [Act.put, List.setIfInBounds_toArray, List.set_cons_zero, List.set_cons_succ]
            refine wpAnyH_ready (rs := [9]) (by kernel_rfl) (by simp) ?_
            refine AllReadyH.cons rfl (fun K hK => ?_) ?_
            · have cc := h8.cell 0
              have ff := h8.frozen 0
              go_simp
              obtain ⟨Wc, hWc, hz2, hn, kb, ko⟩ := set_pack hz h8 h8l (.pointer (some ⟨g, 0, none⟩))
              rw [← hWc]
              clear hWc cc ff
              replace hz := hz2
              replace h8 := hn
              replace hb0 := kb hb0 (by decide)
              replace hb1 := kb hb1 (by decide)
              replace h9 := kb h9 (by decide)
              try replace hu := ko hu (by decide)
              try replace hrc := hrc.packed kb ko (by decide) (by decide)
              clear kb ko
              refine hK.out _ _ ?_ (fun hHeld => ?_)
              · exact ⟨hb0.cell 0, hb0.cell 1, hb0.cell 2, hb1.cell 0, hb1.cell 1, hb1.cell 2⟩
              clear hK K
              try simp only [Act.put, List.setIfInBounds_toArray]
              refine wpAnyH_ready (rs := [10]) (by kernel_rfl) (by simp) ?_
              refine AllReadyH.cons rfl (fun K hK => ?_) ?_
              · have cc := h9.cell 0
                have ff := h9.frozen 0
                go_simp
                obtain ⟨Wc, hWc, hz2, hn, kb, ko⟩ := set_pack hz h9 h9l (.slice (some ⟨ub, 0, none⟩) n n)
                rw [← hWc]
                clear hWc cc ff
                replace hz := hz2
                replace h9 := hn
                replace hb0 := kb hb0 (by decide)
                replace hb1 := kb hb1 (by decide)
                replace h8 := kb h8 (by decide)
                try replace hu := ko hu (by decide)
                try replace hrc := hrc.packed kb ko (by decide) (by decide)
                clear kb ko
                refine hK.out _ _ ?_ (fun hHeld => ?_)
                · exact ⟨hb0.cell 0, hb0.cell 1, hb0.cell 2, hb1.cell 0, hb1.cell 1, hb1.cell 2⟩
                clear hK K
                try simp only [Act.put, List.setIfInBounds_toArray]
                refine wpAnyH_done (by kernel_rfl) ?_ _
                refine NoPanic.normal ?_
                go_wp2_with fail
                go_meet
                exact ⟨g, _, _, ub, rfl, rfl, hgV, h8l, h9l, hrc, h8, h9, hu, hz⟩
              exact AllReadyH.nil
            exact AllReadyH.nil
          exact AllReadyH.nil
        refine AllReadyH.cons rfl (fun K hK => ?_) ?_
        · go_simp
          obtain ⟨Wc, hWc, z, h8⟩ := alloc_pack hz #[.pointer none] 98
          have h8l := hz.size
          rw [← hWc]
          clear hWc
          replace hb0 := hb0.below' z
          replace hb1 := hb1.below' z
          try replace h9 := h9.below' z
          try replace hu := hu.below z
          try replace hrc := hrc.below z
          replace hz := hz.trans (z.mono hz.size)
          clear z
          refine hK.out _ _ ?_ (fun hHeld => ?_)
          · exact ⟨hb0.cell 0, hb0.cell 1, hb0.cell 2, hb1.cell 0, hb1.cell 1, hb1.cell 2⟩
          clear hK K
          try simp only [Act.put, List.setIfInBounds_toArray, List.set_cons_zero, List.set_cons_succ]
          refine wpAnyH_ready (rs := [2]) (by kernel_rfl) (by simp) ?_
          refine AllReadyH.cons rfl (fun K hK => ?_) ?_
          · go_simp
            refine (runnerOf_any _ _ _ _ _ _ _ _ _ xs _ _ _ ys _ (HX.out.below (y0.trans (hz.mono hv0))) (HY.out.below (y0.trans (hz.mono hv0))) hm hl).mono ?_
            rintro e Wc ⟨g, L, cl, R, cr, rfl, hgW, hrun, ol, or_, hap, z⟩
            have hrc := (NewRunner.runC hrun ol or_ hap).lo_le hz.size
            have hgV := Nat.le_trans hz.size hgW
            replace hb0 := hb0.below' z
            replace hb1 := hb1.below' z
            try replace h8 := h8.below' z
            try replace h9 := h9.below' z
            try replace hu := hu.below z
            replace hz := hz.trans (z.mono hz.size)
            clear hap hrun ol or_ z hgW
            refine hK.out _ _ ?_ (fun hHeld => ?_)
            · exact ⟨hb0.cell 0, hb0.cell 1, hb0.cell 2, hb1.cell 0, hb1.cell 1, hb1.cell 2⟩
            clear hK K
            try simp only [Act.put, List.setIfInBounds_toArray, List.set_cons_zero, List.set_cons_succ]
            refine wpAnyH_ready (rs := [9]) (by kernel_rfl) (by simp) ?_
            refine AllReadyH.cons rfl (fun K hK => ?_) ?_
            · have cc := h8.cell 0
              have ff := h8.frozen 0
              go_simp
              obtain ⟨Wc, hWc, hz2, hn, kb, ko⟩ := set_pack hz h8 h8l (.pointer (some ⟨g, 0, none⟩))
              rw [← hWc]
              clear hWc cc ff
              replace hz := hz2
              replace h8 := hn
              replace hb0 := kb hb0 (by decide)
              replace hb1 := kb hb1 (by decide)
              replace h9 := kb h9 (by decide)
              try replace hu := ko hu (by decide)
              try replace hrc := hrc.packed kb ko (by decide) (by decide)
              clear kb ko
              refine hK.out _ _ ?_ (fun hHeld => ?_)
              · exact ⟨hb0.cell 0, hb0.cell 1, hb0.cell 2, hb1.cell 0, hb1.cell 1, hb1.cell 2⟩
              clear hK K
              try simp only [Act.put, List.setIfInBounds_toArray]
              refine wpAnyH_ready (rs := [10]) (by kernel_rfl) (by simp) ?_
              refine AllReadyH.cons rfl (fun K hK => ?_) ?_
              · have cc := h9.cell 0
                have ff := h9.frozen 0
                go_simp
                obtain ⟨Wc, hWc, hz2, hn, kb, ko⟩ := set_pack hz h9 h9l (.slice (some ⟨ub, 0, none⟩) n n)
                rw [← hWc]
                clear hWc cc ff
                replace hz := hz2
                replace h9 := hn
                replace hb0 := kb hb0 (by decide)
                replace hb1 := kb hb1 (by decide)
                replace h8 := kb h8 (by decide)
                try replace hu := ko hu (by decide)
                try replace hrc := hrc.packed kb ko (by decide) (by decide)
                clear kb ko
                refine hK.out _ _ ?_ (fun hHeld => ?_)
                · exact ⟨hb0.cell 0, hb0.cell 1, hb0.cell 2, hb1.cell 0, hb1.cell 1, hb1.cell 2⟩
                clear hK K
                try simp only [Act.put, List.setIfInBounds_toArray]
                refine wpAnyH_done (by kernel_rfl) ?_ _
                refine NoPanic.normal ?_
                go_wp2_with fail
                go_meet
                exact ⟨g, _, _, ub, rfl, rfl, hgV, h8l, h9l, hrc, h8, h9, hu, hz⟩
              exact AllReadyH.nil
            exact AllReadyH.nil
          exact AllReadyH.nil
        exact AllReadyH.nil
      exact AllReadyH.nil
    refine AllReadyH.cons rfl (fun K hK => ?_) ?_
    · go_simp
      obtain ⟨Wc, hWc, z, h8⟩ := alloc_pack hz #[.pointer none] 98
      have h8l := hz.size
      rw [← hWc]
      clear hWc
      replace hb0 := hb0.below' z
      replace hb1 := hb1.below' z
      try replace h9 := h9.below' z
      try replace hu := hu.below z
      try replace hrc := hrc.below z
      replace hz := hz.trans (z.mono hz.size)
      clear z
      refine hK.out _ _ ?_ (fun hHeld => ?_)
      · exact ⟨hb0.cell 0, hb0.cell 1, hb0.cell 2, hb1.cell 0, hb1.cell 1, hb1.cell 2⟩
      clear hK K
      try simp only [Act.put, List.setIfInBounds_toArray, List.set_cons_zero, List.set_cons_succ]
      refine wpAnyH_ready (rs := [2, 6, 8]) (by kernel_rfl) (by simp) ?_
      refine AllReadyH.cons rfl (fun K hK => ?_) ?_
      · go_simp
        refine (runnerOf_any _ _ _ _ _ _ _ _ _ xs _ _ _ ys _ (HX.out.below (y0.trans (hz.mono hv0))) (HY.out.below (y0.trans (hz.mono hv0))) hm hl).mono ?_
        rintro e Wc ⟨g, L, cl, R, cr, rfl, hgW, hrun, ol, or_, hap, z⟩
        have hrc := (NewRunner.runC hrun ol or_ hap).lo_le hz.size
        have hgV := Nat.le_trans hz.size hgW
        replace hb0 := hb0.below' z
        replace hb1 := hb1.below' z
        try replace h8 := h8.below' z
        try replace h9 := h9.below' z
        try replace hu := hu.below z
        replace hz := hz.trans (z.mono hz.size)
        clear hap hrun ol or_ z hgW
        refine hK.out _ _ ?_ (fun hHeld => ?_)
        · exact ⟨hb0.cell 0, hb0.cell 1, hb0.cell 2, hb1.cell 0, hb1.cell 1, hb1.cell 2⟩
        clear hK K
        try simp only [Act.put, List.setIfInBounds_toArray, List.set_cons_zero, List.set_cons_succ]
        refine wpAnyH_ready (rs := [6, 8]) (by kernel_rfl) (by simp) ?_
        refine AllReadyH.cons rfl (fun K hK => ?_) ?_
        · rw [if_pos (by rfl)]
          refine wp_make_Own (.tmp 20) (.tmp 20) rfl elBool (n := n) (lo := V.heap.size) rfl rfl (by omega) (by simp only [maxLen]; omega) hz.size ?_
          intro ub Wc hub hu z
          clear hub
          rw [made_bools] at hu
          replace hb0 := hb0.below' z
          replace hb1 := hb1.below' z
          try replace h8 := h8.below' z
          try replace h9 := h9.below' z
          try replace hrc := hrc.below z
          replace hz := hz.trans (z.mono hz.size)
          clear z
          refine hK.out _ _ ?_ (fun hHeld => ?_)
          · exact ⟨hb0.cell 0, hb0.cell 1, hb0.cell 2, hb1.cell 0, hb1.cell 1, hb1.cell 2⟩
          clear hK K
          try simp only [Act.put, List.setIfInBounds_toArray, List.set_cons_zero, List.set_cons_succ]
          refine wpAnyH_ready (rs := [8]) (by kernel_rfl) (by simp) ?_
          refine AllReadyH.cons rfl (fun K hK => ?_) ?_
          · go_simp
            obtain ⟨Wc, hWc, z, h9⟩ := alloc_pack hz #[.slice none 0 0] 103
            have h9l := hz.size
            rw [← hWc]
            clear hWc
            replace hb0 := hb0.below' z
            replace hb1 := hb1.below' z
            try replace h8 := h8.below' z
            try replace hu := hu.below z
            try replace hrc := hrc.below z
            replace hz := hz.trans (z.mono hz.size)
            clear z
            refine hK.out _ _ ?_ (fun hHeld => ?_)
            · exact ⟨hb0.cell 0, hb0.cell 1, hb0.cell 2, hb1.cell 0, hb1.cell 1, hb1.cell 2⟩
            clear hK K
            try simp only [Act.put, List.setIfInBounds_toArray, List.set_cons_zero, List.set_cons_succ]
            refine wpAnyH_ready (rs := [9]) (by kernel_rfl) (by simp) ?_
            refine AllReadyH.cons rfl (fun K hK => ?_) ?_
            · have cc := h8.cell 0
              have ff := h8.frozen 0
              go_simp
              obtain ⟨Wc, hWc, hz2, hn, kb, ko⟩ := set_pack hz h8 h8l (.pointer (some ⟨g, 0, none⟩))
              rw [← hWc]
              clear hWc cc ff
              replace hz := hz2
              replace h8 := hn
              replace hb0 := kb hb0 (by decide)
              replace hb1 := kb hb1 (by decide)
              replace h9 := kb h9 (by decide)
              try replace hu := ko hu (by decide)
              try replace hrc := hrc.packed kb ko (by decide) (by decide)
              clear kb ko
              refine hK.out _ _ ?_ (fun hHeld => ?_)
              · exact ⟨hb0.cell 0, hb0.cell 1, hb0.cell 2, hb1.cell 0, hb1.cell 1, hb1.cell 2⟩
              clear hK K
              try simp only [Act.put, List.setIfInBounds_toArray]
              refine wpAnyH_ready (rs := [10]) (by kernel_rfl) (by simp) ?_
              refine AllReadyH.cons rfl (fun K hK => ?_) ?_
              · have cc := h9.cell 0
                have ff := h9.frozen 0
                go_simp
                obtain ⟨Wc, hWc, hz2, hn, kb, ko⟩ := set_pack hz h9 h9l (.slice (some ⟨ub, 0, none⟩) n n)
                rw [← hWc]
                clear hWc cc ff
                replace hz := hz2
                replace h9 := hn
                replace hb0 := kb hb0 (by decide)
                replace hb1 := kb hb1 (by decide)
                replace h8 := kb h8 (by decide)
                try replace hu := ko hu (by decide)
                try replace hrc := hrc.packed kb ko (by decide) (by decide)
                clear kb ko
                refine hK.out _ _ ?_ (fun hHeld => ?_)
                · exact ⟨hb0.cell 0, hb0.cell 1, hb0.cell 2, hb1.cell 0, hb1.cell 1, hb1.cell 2⟩
                clear hK K
                try simp only [Act.put, List.setIfInBounds_toArray]
                refine wpAnyH_done (by kernel_rfl) ?_ _
                refine NoPanic.normal ?_
                go_wp2_with fail
                go_meet
                exact ⟨g, _, _, ub, rfl, rfl, hgV, h8l, h9l, hrc, h8, h9, hu, hz⟩
              exact AllReadyH.nil
            exact AllReadyH.nil
          exact AllReadyH.nil
        refine AllReadyH.cons rfl (fun K hK => ?_) ?_
        · go_simp
          obtain ⟨Wc, hWc, z, h9⟩ := alloc_pack hz #[.slice none 0 0] 103
          have h9l := hz.size
          rw [← hWc]
          clear hWc
          replace hb0 := hb0.below' z
          replace hb1 := hb1.below' z
          try replace h8 := h8.below' z
          try replace hu := hu.below z
          try replace hrc := hrc.below z
          replace hz := hz.trans (z.mono hz.size)
          clear z
          refine hK.out _ _ ?_ (fun hHeld => ?_)
          · exact ⟨hb0.cell 0, hb0.cell 1, hb0.cell 2, hb1.cell 0, hb1.cell 1, hb1.cell 2⟩
          clear hK K
          try simp only [Act.put, List.setIfInBounds_toArray, List.set_cons_zero, List.set_cons_succ]
          refine wpAnyH_ready (rs := [6, 9]) (by kernel_rfl) (by simp) ?_
          refine AllReadyH.cons rfl (fun K hK => ?_) ?_
          · rw [if_pos (by rfl)]
            refine wp_make_Own (.tmp 20) (.tmp 20) rfl elBool (n := n) (lo := V.heap.size) rfl rfl (by omega) (by simp only [maxLen]; omega) hz.size ?_
            intro ub Wc hub hu z
            clear hub
            rw [made_bools] at hu
            replace hb0 := hb0.below' z
            replace hb1 := hb1.below' z
            try replace h8 := h8.below' z
            try replace h9 := h9.below' z
            try replace hrc := hrc.below z
            replace hz := hz.trans (z.mono hz.size)
            clear z
            refine hK.out _ _ ?_ (fun hHeld => ?_)
            · exact ⟨hb0.cell 0, hb0.cell 1, hb0.cell 2, hb1.cell 0, hb1.cell 1, hb1.cell 2⟩
            clear hK K
            try simp only [Act.put, List.setIfInBounds_toArray, List.set_cons_zero, List.set_cons_succ]
            refine wpAnyH_ready (rs := [9]) (by kernel_rfl) (by simp) ?_
            refine AllReadyH.cons rfl (fun K hK => ?_) ?_
            · have cc := h8.cell 0
              have ff := h8.frozen 0
              go_simp
              obtain ⟨Wc, hWc, hz2, hn, kb, ko⟩ := set_pack hz h8 h8l (.pointer (some ⟨g, 0, none⟩))
              rw [← hWc]
              clear hWc cc ff
              replace hz := hz2
              replace h8 := hn
              replace hb0 := kb hb0 (by decide)
              replace hb1 := kb hb1 (by decide)
              replace h9 := kb h9 (by decide)
              try replace hu := ko hu (by decide)
              try replace hrc := hrc.packed kb ko (by decide) (by decide)
              clear kb ko
              refine hK.out _ _ ?_ (fun hHeld => ?_)
              · exact ⟨hb0.cell 0, hb0.cell 1, hb0.cell 2, hb1.cell 0, hb1.cell 1, hb1.cell 2⟩
              clear hK K
              try simp only [Act.put, List.setIfInBounds_toArray]
              refine wpAnyH_ready (rs := [10]) (by kernel_rfl) (by simp) ?_
              refine AllReadyH.cons rfl (fun K hK => ?_) ?_
              · have cc := h9.cell 0
                have ff := h9.frozen 0
                go_simp
                obtain ⟨Wc, hWc, hz2, hn, kb, ko⟩ := set_pack hz h9 h9l (.slice (some ⟨ub, 0, none⟩) n n)
                rw [← hWc]
                clear hWc cc ff
                replace hz := hz2
                replace h9 := hn
                replace hb0 := kb hb0 (by decide)
                replace hb1 := kb hb1 (by decide)
                replace h8 := kb h8 (by decide)
                try replace hu := ko hu (by decide)
                try replace hrc := hrc.packed kb ko (by decide) (by decide)
                clear kb ko
                refine hK.out _ _ ?_ (fun hHeld => ?_)
                · exact ⟨hb0.cell 0, hb0.cell 1, hb0.cell 2, hb1.cell 0, hb1.cell 1, hb1.cell 2⟩
                clear hK K
                try simp only [Act.put, List.setIfInBounds_toArray]
                refine wpAnyH_done (by kernel_rfl) ?_ _
                refine NoPanic.normal ?_
                go_wp2_with fail
                go_meet
                exact ⟨g, _, _, ub, rfl, rfl, hgV, h8l, h9l, hrc, h8, h9, hu, hz⟩
              exact AllReadyH.nil
            exact AllReadyH.nil
          refine AllReadyH.cons rfl (fun K hK => ?_) ?_
          · have cc := h8.cell 0
            have ff := h8.frozen 0
            go_simp
            obtain ⟨Wc, hWc, hz2, hn, kb, ko⟩ := set_pack hz h8 h8l (.pointer (some ⟨g, 0, none⟩))
            rw [← hWc]
            clear hWc cc ff
            replace hz := hz2
            replace h8 := hn
            replace hb0 := kb hb0 (by decide)
            replace hb1 := kb hb1 (by decide)
            replace h9 := kb h9 (by decide)
            try replace hu := ko hu (by decide)
            try replace hrc := hrc.packed kb ko (by decide) (by decide)
            clear kb ko
            refine hK.out _ _ ?_ (fun hHeld => ?_)
            · exact ⟨hb0.cell 0, hb0.cell 1, hb0.cell 2, hb1.cell 0, hb1.cell 1, hb1.cell 2⟩
            clear hK K
            try simp only [Act.put, List.setIfInBounds_toArray]
            refine wpAnyH_ready (rs := [6]) (by kernel_rfl) (by simp) ?_
            refine AllReadyH.cons rfl (fun K hK => ?_) ?_
            · rw [if_pos (by rfl)]
              refine wp_make_Own (.tmp 20) (.tmp 20) rfl elBool (n := n) (lo := V.heap.size) rfl rfl (by omega) (by simp only [maxLen]; omega) hz.size ?_
              intro ub Wc hub hu z
              clear hub
              rw [made_bools] at hu
              replace hb0 := hb0.below' z
              replace hb1 := hb1.below' z
              try replace h8 := h8.below' z
              try replace h9 := h9.below' z
              try replace hrc := hrc.below z
              replace hz := hz.trans (z.mono hz.size)
              clear z
              refine hK.out _ _ ?_ (fun hHeld => ?_)
              · exact ⟨hb0.cell 0, hb0.cell 1, hb0.cell 2, hb1.cell 0, hb1.cell 1, hb1.cell 2⟩
              clear hK K
              try simp only [Act.put, List.setIfInBounds_toArray, List.set_cons_zero, List.set_cons_succ]
              refine wpAnyH_ready (rs := [10]) (by kernel_rfl) (by simp) ?_
              refine AllReadyH.cons rfl (fun K hK => ?_) ?_
              · have cc := h9.cell 0
                have ff := h9.frozen 0
                go_simp
                obtain ⟨Wc, hWc, hz2, hn, kb, ko⟩ := set_pack hz h9 h9l (.slice (some ⟨ub, 0, none⟩) n n)
                rw [← hWc]
                clear hWc cc ff
                replace hz := hz2
                replace h9 := hn
                replace hb0 := kb hb0 (by decide)
                replace hb1 := kb hb1 (by decide)
                replace h8 := kb h8 (by decide)
                try replace hu := ko hu (by decide)
                try replace hrc := hrc.packed kb ko (by decide) (by decide)
                clear kb ko
                refine hK.out _ _ ?_ (fun hHeld => ?_)
                · exact ⟨hb0.cell 0, hb0.cell 1, hb0.cell 2, hb1.cell 0, hb1.cell 1, hb1.cell 2⟩
                clear hK K
                try simp only [Act.put, List.setIfInBounds_toArray]
                refine wpAnyH_done (by kernel_rfl) ?_ _
                refine NoPanic.normal ?_
                go_wp2_with fail
                go_meet
                exact ⟨g, _, _, ub, rfl, rfl, hgV, h8l, h9l, hrc, h8, h9, hu, hz⟩
              exact AllReadyH.nil
            exact AllReadyH.nil
          exact AllReadyH.nil
        exact AllReadyH.nil
      refine AllReadyH.cons rfl (fun K hK => ?_) ?_
      · rw [if_pos (by rfl)]
        refine wp_make_Own (.tmp 20) (.tmp 20) rfl elBool (n := n) (lo := V.heap.size) rfl rfl (by omega) (by simp only [maxLen]; omega) hz.size ?_
        intro ub Wc hub hu z
        clear hub
        rw [made_bools] at hu
        replace hb0 := hb0.below' z
        replace hb1 := hb1.below' z
        try replace h8 := h8.below' z
        try replace h9 := h9.below' z
        try replace hrc := hrc.below z
        replace hz := hz.trans (z.mono hz.size)
        clear z
        refine hK.out _ _ ?_ (fun hHeld => ?_)
        · exact ⟨hb0.cell 0, hb0.cell 1, hb0.cell 2, hb1.cell 0, hb1.cell 1, hb1.cell 2⟩
        clear hK K
        try simp only [Act.put, List.setIfInBounds_toArray, List.set_cons_zero, List.set_cons_succ]
        refine wpAnyH_ready (rs := [2, 8]) (by kernel_rfl) (by simp) ?_
        refine AllReadyH.cons rfl (fun K hK => ?_) ?_
        · go_simp
          refine (runnerOf_any _ _ _ _ _ _ _ _ _ xs _ _ _ ys _ (HX.out.below (y0.trans (hz.mono hv0))) (HY.out.below (y0.trans (hz.mono hv0))) hm hl).mono ?_
          rintro e Wc ⟨g, L, cl, R, cr, rfl, hgW, hrun, ol, or_, hap, z⟩
          have hrc := (NewRunner.runC hrun ol or_ hap).lo_le hz.size
          have hgV := Nat.le_trans hz.size hgW
          replace hb0 := hb0.below' z
          replace hb1 := hb1.below' z
          try replace h8 := h8.below' z
          try replace h9 := h9.below' z
          try replace hu := hu.below z
          replace hz := hz.trans (z.mono hz.size)
          clear hap hrun ol or_ z hgW
          refine hK.out _ _ ?_ (fun hHeld => ?_)
          · exact ⟨hb0.cell 0, hb0.cell 1, hb0.cell 2, hb1.cell 0, hb1.cell 1, hb1.cell 2⟩
          clear hK K
          try simp only [Act.put, List.setIfInBounds_toArray, List.set_cons_zero, List.set_cons_succ]
          refine wpAnyH_ready (rs := [8]) (by kernel_rfl) (by simp) ?_
          refine AllReadyH.cons rfl (fun K hK => ?_) ?_
          · go_simp
            obtain ⟨Wc, hWc, z, h9⟩ := alloc_pack hz #[.slice none 0 0] 103
            have h9l := hz.size
            rw [← hWc]
            clear hWc
            replace hb0 := hb0.below' z
            replace hb1 := hb1.below' z
            try replace h8 := h8.below' z
            try replace hu := hu.below z
            try replace hrc := hrc.below z
            replace hz := hz.trans (z.mono hz.size)
            clear z
            refine hK.out _ _ ?_ (fun hHeld => ?_)
            · exact ⟨hb0.cell 0, hb0.cell 1, hb0.cell 2, hb1.cell 0, hb1.cell 1, hb1.cell 2⟩
            clear hK K
            try simp only [Act.put, List.setIfInBounds_toArray, List.set_cons_zero, List.set_cons_succ]
            refine wpAnyH_ready (rs := [9]) (by kernel_rfl) (by simp) ?_
            refine AllReadyH.cons rfl (fun K hK => ?_) ?_
            · have cc := h8.cell 0
              have ff := h8.frozen 0
              go_simp
              obtain ⟨Wc, hWc, hz2, hn, kb, ko⟩ := set_pack hz h8 h8l (.pointer (some ⟨g, 0, none⟩))
              rw [← hWc]
              clear hWc cc ff
              replace hz := hz2
              replace h8 := hn
              replace hb0 := kb hb0 (by decide)
              replace hb1 := kb hb1 (by decide)
              replace h9 := kb h9 (by decide)
              try replace hu := ko hu (by decide)
              try replace hrc := hrc.packed kb ko (by decide) (by decide)
              clear kb ko
              refine hK.out _ _ ?_ (fun hHeld => ?_)
              · exact ⟨hb0.cell 0, hb0.cell 1, hb0.cell 2, hb1.cell 0, hb1.cell 1, hb1.cell 2⟩
              clear hK K
              try simp only [Act.put, List.setIfInBounds_toArray]
              refine wpAnyH_ready (rs := [10]) (by kernel_rfl) (by simp) ?_
              refine AllReadyH.cons rfl (fun K hK => ?_) ?_
              · have cc := h9.cell 0
                have ff := h9.frozen 0
                go_simp
                obtain ⟨Wc, hWc, hz2, hn, kb, ko⟩ := set_pack hz h9 h9l (.slice (some ⟨ub, 0, none⟩) n n)
                rw [← hWc]
                clear hWc cc ff
                replace hz := hz2
                replace h9 := hn
                replace hb0 := kb hb0 (by decide)
                replace hb1 := kb hb1 (by decide)
                replace h8 := kb h8 (by decide)
                try replace hu := ko hu (by decide)
                try replace hrc := hrc.packed kb ko (by decide) (by decide)
                clear kb ko
                refine hK.out _ _ ?_ (fun hHeld => ?_)
                · exact ⟨hb0.cell 0, hb0.cell 1, hb0.cell 2, hb1.cell 0, hb1.cell 1, hb1.cell 2⟩
                clear hK K
                try simp only [Act.put, List.setIfInBounds_toArray]
                refine wpAnyH_done (by kernel_rfl) ?_ _
                refine NoPanic.normal ?_
                go_wp2_with fail
                go_meet
                exact ⟨g, _, _, ub, rfl, rfl, hgV, h8l, h9l, hrc, h8, h9, hu, hz⟩
              exact AllReadyH.nil
            exact AllReadyH.nil
          exact AllReadyH.nil
        refine AllReadyH.cons rfl (fun K hK => ?_) ?_
        · go_simp
          obtain ⟨Wc, hWc, z, h9⟩ := alloc_pack hz #[.slice none 0 0] 103
          have h9l := hz.size
          rw [← hWc]
          clear hWc
          replace hb0 := hb0.below' z
          replace hb1 := hb1.below' z
          try replace h8 := h8.below' z
          try replace hu := hu.below z
          try replace hrc := hrc.below z
          replace hz := hz.trans (z.mono hz.size)
          clear z
          refine hK.out _ _ ?_ (fun hHeld => ?_)
          · exact ⟨hb0.cell 0, hb0.cell 1, hb0.cell 2, hb1.cell 0, hb1.cell 1, hb1.cell 2⟩
          clear hK K
          try simp only [Act.put, List.setIfInBounds_toArray, List.set_cons_zero, List.set_cons_succ]
          refine wpAnyH_ready (rs := [2]) (by kernel_rfl) (by simp) ?_
          refine AllReadyH.cons rfl (fun K hK => ?_) ?_
          · go_simp
            refine (runnerOf_any _ _ _ _ _ _ _ _ _ xs _ _ _ ys _ (HX.out.below (y0.trans (hz.mono hv0))) (HY.out.below (y0.trans (hz.mono hv0))) hm hl).mono ?_
            rintro e Wc ⟨g, L, cl, R, cr, rfl, hgW, hrun, ol, or_, hap, z⟩
            have hrc := (NewRunner.runC hrun ol or_ hap).lo_le hz.size
            have hgV := Nat.le_trans hz.size hgW
            replace hb0 := hb0.below' z
            replace hb1 := hb1.below' z
            try replace h8 := h8.below' z
            try replace h9 := h9.below' z
            try replace hu := hu.below z
            replace hz := hz.trans (z.mono hz.size)
            clear hap hrun ol or_ z hgW
            refine hK.out _ _ ?_ (fun hHeld => ?_)
            · exact ⟨hb0.cell 0, hb0.cell 1, hb0.cell 2, hb1.cell 0, hb1.cell 1, hb1.cell 2⟩
            clear hK K
            try simp only [Act.put, List.setIfInBounds_toArray, List.set_cons_zero, List.set_cons_succ]
            refine wpAnyH_ready (rs := [9]) (by kernel_rfl) (by simp) ?_
            refine AllReadyH.cons rfl (fun K hK => ?_) ?_
            · have cc := h8.cell 0
              have ff := h8.frozen 0
              go_simp
              obtain ⟨Wc, hWc, hz2, hn, kb, ko⟩ := set_pack hz h8 h8l (.pointer (some ⟨g, 0, none⟩))
              rw [← hWc]
              clear hWc cc ff
              replace hz := hz2
              replace h8 := hn
              replace hb0 := kb hb0 (by decide)
              replace hb1 := kb hb1 (by decide)
              replace h9 := kb h9 (by decide)
              try replace hu := ko hu (by decide)
              try replace hrc := hrc.packed kb ko (by decide) (by decide)
              clear kb ko
              refine hK.out _ _ ?_ (fun hHeld => ?_)
              · exact ⟨hb0.cell 0, hb0.cell 1, hb0.cell 2, hb1.cell 0, hb1.cell 1, hb1.cell 2⟩
              clear hK K
              try simp only [Act.put, List.setIfInBounds_toArray]
              refine wpAnyH_ready (rs := [10]) (by kernel_rfl) (by simp) ?_
              refine AllReadyH.cons rfl (fun K hK => ?_) ?_
              · have cc := h9.cell 0
                have ff := h9.frozen 0
                go_simp
                obtain ⟨Wc, hWc, hz2, hn, kb, ko⟩ := set_pack hz h9 h9l (.slice (some ⟨ub, 0, none⟩) n n)
                rw [← hWc]
                clear hWc cc ff
                replace hz := hz2
                replace h9 := hn
                replace hb0 := kb hb0 (by decide)
                replace hb1 := kb hb1 (by decide)
                replace h8 := kb h8 (by decide)
                try replace hu := ko hu (by decide)
                try replace hrc := hrc.packed kb ko (by decide) (by decide)
                clear kb ko
                refine hK.out _ _ ?_ (fun hHeld => ?_)
                · exact ⟨hb0.cell 0, hb0.cell 1, hb0.cell 2, hb1.cell 0, hb1.cell 1, hb1.cell 2⟩
                clear hK K
                try simp only [Act.put, List.setIfInBounds_toArray]
                refine wpAnyH_done (by kernel_rfl) ?_ _
                refine NoPanic.normal ?_
                go_wp2_with fail
                go_meet
                exact ⟨g, _, _, ub, rfl, rfl, hgV, h8l, h9l, hrc, h8, h9, hu, hz⟩
              exact AllReadyH.nil
            exact AllReadyH.nil
          exact AllReadyH.nil
        exact AllReadyH.nil
      refine AllReadyH.cons rfl (fun K hK => ?_) ?_
      · go_simp
        obtain ⟨Wc, hWc, z, h9⟩ := alloc_pack hz #[.slice none 0 0] 103
        have h9l := hz.size
        rw [← hWc]
        clear hWc
        replace hb0 := hb0.below' z
        replace hb1 := hb1.below' z
        try replace h8 := h8.below' z
        try replace hu := hu.below z
        try replace hrc := hrc.below z
        replace hz := hz.trans (z.mono hz.size)
        clear z
        refine hK.out _ _ ?_ (fun hHeld => ?_)
        · exact ⟨hb0.cell 0, hb0.cell 1, hb0.cell 2, hb1.cell 0, hb1.cell 1, hb1.cell 2⟩
        clear hK K
        try simp only [Act.put, List.setIfInBounds_toArray, List.set_cons_zero, List.set_cons_succ]
        refine wpAnyH_ready (rs := [2, 6]) (by kernel_rfl) (by simp) ?_
        refine AllReadyH.cons rfl (fun K hK => ?_) ?_
        · go_simp
          refine (runnerOf_any _ _ _ _ _ _ _ _ _ xs _ _ _ ys _ (HX.out.below (y0.trans (hz.mono hv0))) (HY.out.below (y0.trans (hz.mono hv0))) hm hl).mono ?_
          rintro e Wc ⟨g, L, cl, R, cr, rfl, hgW, hrun, ol, or_, hap, z⟩
          have hrc := (NewRunner.runC hrun ol or_ hap).lo_le hz.size
          have hgV := Nat.le_trans hz.size hgW
          replace hb0 := hb0.below' z
          replace hb1 := hb1.below' z
          try replace h8 := h8.below' z
          try replace h9 := h9.below' z
          try replace hu := hu.below z
          replace hz := hz.trans (z.mono hz.size)
          clear hap hrun ol or_ z hgW
          refine hK.out _ _ ?_ (fun hHeld => ?_)
          · exact ⟨hb0.cell 0, hb0.cell 1, hb0.cell 2, hb1.cell 0, hb1.cell 1, hb1.cell 2⟩
          clear hK K
          try simp only [Act.put, List.setIfInBounds_toArray, List.set_cons_zero, List.set_cons_succ]
          refine wpAnyH_ready (rs := [6, 9]) (by kernel_rfl) (by simp) ?_
          refine AllReadyH.cons rfl (fun K hK => ?_) ?_
          · rw [if_pos (by rfl)]
            refine wp_make_Own (.tmp 20) (.tmp 20) rfl elBool (n := n) (lo := V.heap.size) rfl rfl (by omega) (by simp only [maxLen]; omega) hz.size ?_
            intro ub Wc hub hu z
            clear hub
            rw [made_bools] at hu
            replace hb0 := hb0.below' z
            replace hb1 := hb1.below' z
            try replace h8 := h8.below' z
            try replace h9 := h9.below' z
            try replace hrc := hrc.below z
            replace hz := hz.trans (z.mono hz.size)
            clear z
            refine hK.out _ _ ?_ (fun hHeld => ?_)
            · exact ⟨hb0.cell 0, hb0.cell 1, hb0.cell 2, hb1.cell 0, hb1.cell 1, hb1.cell 2⟩
            clear hK K
            try simp only [Act.put, List.setIfInBounds_toArray, List.set_cons_zero, List.set_cons_succ]
            refine wpAnyH_ready (rs := [9]) (by kernel_rfl) (by simp) ?_
            refine AllReadyH.cons rfl (fun K hK => ?_) ?_
            · have cc := h8.cell 0
              have ff := h8.frozen 0
              go_simp
              obtain ⟨Wc, hWc, hz2, hn, kb, ko⟩ := set_pack hz h8 h8l (.pointer (some ⟨g, 0, none⟩))
              rw [← hWc]
              clear hWc cc ff
              replace hz := hz2
              replace h8 := hn
              replace hb0 := kb hb0 (by decide)
              replace hb1 := kb hb1 (by decide)
              replace h9 := kb h9 (by decide)
              try replace hu := ko hu (by decide)
              try replace hrc := hrc.packed kb ko (by decide) (by decide)
              clear kb ko
              refine hK.out _ _ ?_ (fun hHeld => ?_)
              · exact ⟨hb0.cell 0, hb0.cell 1, hb0.cell 2, hb1.cell 0, hb1.cell 1, hb1.cell 2⟩
              clear hK K
              try simp only [Act.put, List.setIfInBounds_toArray]
              refine wpAnyH_ready (rs := [10]) (by kernel_rfl) (by simp) ?_
              refine AllReadyH.cons rfl (fun K hK => ?_) ?_
              · have cc := h9.cell 0
                have ff := h9.frozen 0
                go_simp
                obtain ⟨Wc, hWc, hz2, hn, kb, ko⟩ := set_pack hz h9 h9l (.slice (some ⟨ub, 0, none⟩) n n)
                rw [← hWc]
                clear hWc cc ff
                replace hz := hz2
                replace h9 := hn
                replace hb0 := kb hb0 (by decide)
                replace hb1 := kb hb1 (by decide)
                replace h8 := kb h8 (by decide)
                try replace hu := ko hu (by decide)
                try replace hrc := hrc.packed kb ko (by decide) (by decide)
                clear kb ko
                refine hK.out _ _ ?_ (fun hHeld => ?_)
                · exact ⟨hb0.cell 0, hb0.cell 1, hb0.cell 2, hb1.cell 0, hb1.cell 1, hb1.cell 2⟩
                clear hK K
                try simp only [Act.put, List.setIfInBounds_toArray]
                refine wpAnyH_done (by kernel_rfl) ?_ _
                refine NoPanic.normal ?_
                go_wp2_with fail
                go_meet
                exact ⟨g, _, _, ub, rfl, rfl, hgV, h8l, h9l, hrc, h8, h9, hu, hz⟩
              exact AllReadyH.nil
            exact AllReadyH.nil
          refine AllReadyH.cons rfl (fun K hK => ?_) ?_
          · have cc := h8.cell 0
            have ff := h8.frozen 0
            go_simp
            obtain ⟨Wc, hWc, hz2, hn, kb, ko⟩ := set_pack hz h8 h8l (.pointer (some ⟨g, 0, none⟩))
            rw [← hWc]
            clear hWc cc ff
            replace hz := hz2
            replace h8 := hn
            replace hb0 := kb hb0 (by decide)
            replace hb1 := kb hb1 (by decide)
            replace h9 := kb h9 (by decide)
            try replace hu := ko hu (by decide)
            try replace hrc := hrc.packed kb ko (by decide) (by decide)
            clear kb ko
            refine hK.out _ _ ?_ (fun hHeld => ?_)
            · exact ⟨hb0.cell 0, hb0.cell 1, hb0.cell 2, hb1.cell 0, hb1.cell 1, hb1.cell 2⟩
            clear hK K
            try simp only [Act.put, List.setIfInBounds_toArray]
            refine wpAnyH_ready (rs := [6]) (by kernel_rfl) (by simp) ?_
            refine AllReadyH.cons rfl (fun K hK => ?_) ?_
            · rw [if_pos (by rfl)]
              refine wp_make_Own (.tmp 20) (.tmp 20) rfl elBool (n := n) (lo := V.heap.size) rfl rfl (by omega) (by simp only [maxLen]; omega) hz.size ?_
              intro ub Wc hub hu z
              clear hub
              rw [made_bools] at hu
              replace hb0 := hb0.below' z
              replace hb1 := hb1.below' z
              try replace h8 := h8.below' z
              try replace h9 := h9.below' z
              try replace hrc := hrc.below z
              replace hz := hz.trans (z.mono hz.size)
              clear z
              refine hK.out _ _ ?_ (fun hHeld => ?_)
              · exact ⟨hb0.cell 0, hb0.cell 1, hb0.cell 2, hb1.cell 0, hb1.cell 1, hb1.cell 2⟩
              clear hK K
              try simp only [Act.put, List.setIfInBounds_toArray, List.set_cons_zero, List.set_cons_succ]
              refine wpAnyH_ready (rs := [10]) (by kernel_rfl) (by simp) ?_
              refine AllReadyH.cons rfl (fun K hK => ?_) ?_
              · have cc := h9.cell 0
                have ff := h9.frozen 0
                go_simp
                obtain ⟨Wc, hWc, hz2, hn, kb, ko⟩ := set_pack hz h9 h9l (.slice (some ⟨ub, 0, none⟩) n n)
                rw [← hWc]
                clear hWc cc ff
                replace hz := hz2
                replace h9 := hn
                replace hb0 := kb hb0 (by decide)
                replace hb1 := kb hb1 (by decide)
                replace h8 := kb h8 (by decide)
                try replace hu := ko hu (by decide)
                try replace hrc := hrc.packed kb ko (by decide) (by decide)
                clear kb ko
                refine hK.out _ _ ?_ (fun hHeld => ?_)
                · exact ⟨hb0.cell 0, hb0.cell 1, hb0.cell 2, hb1.cell 0, hb1.cell 1, hb1.cell 2⟩
                clear hK K
                try simp only [Act.put, List.setIfInBounds_toArray]
                refine wpAnyH_done (by kernel_rfl) ?_ _
                refine NoPanic.normal ?_
                go_wp2_with fail
                go_meet
                exact ⟨g, _, _, ub, rfl, rfl, hgV, h8l, h9l, hrc, h8, h9, hu, hz⟩
              exact AllReadyH.nil
            exact AllReadyH.nil
          exact AllReadyH.nil
        refine AllReadyH.cons rfl (fun K hK => ?_) ?_
        · rw [if_pos (by rfl)]
          refine wp_make_Own (.tmp 20) (.tmp 20) rfl elBool (n := n) (lo := V.heap.size) rfl rfl (by omega) (by simp only [maxLen]; omega) hz.size ?_
          intro ub Wc hub hu z
          clear hub
          rw [made_bools] at hu
          replace hb0 := hb0.below' z
          replace hb1 := hb1.below' z
          try replace h8 := h8.below' z
          try replace h9 := h9.below' z
          try replace hrc := hrc.below z
          replace hz := hz.trans (z.mono hz.size)
          clear z
          refine hK.out _ _ ?_ (fun hHeld => ?_)
          · exact ⟨hb0.cell 0, hb0.cell 1, hb0.cell 2, hb1.cell 0, hb1.cell 1, hb1.cell 2⟩
          clear hK K
          try simp only [Act.put, List.setIfInBounds_toArray, List.set_cons_zero, List.set_cons_succ]
          refine wpAnyH_ready (rs := [2]) (by kernel_rfl) (by simp) ?_
          refine AllReadyH.cons rfl (fun K hK => ?_) ?_
          · go_simp
            refine (runnerOf_any _ _ _ _ _ _ _ _ _ xs _ _ _ ys _ (HX.out.below (y0.trans (hz.mono hv0))) (HY.out.below (y0.trans (hz.mono hv0))) hm hl).mono ?_
            rintro e Wc ⟨g, L, cl, R, cr, rfl, hgW, hrun, ol, or_, hap, z⟩
            have hrc := (NewRunner.runC hrun ol or_ hap).lo_le hz.size
            have hgV := Nat.le_trans hz.size hgW
            replace hb0 := hb0.below' z
            replace hb1 := hb1.below' z
            try replace h8 := h8.below' z
            try replace h9 := h9.below' z
            try replace hu := hu.below z
            replace hz := hz.trans (z.mono hz.size)
            clear hap hrun ol or_ z hgW
            refine hK.out _ _ ?_ (fun hHeld => ?_)
            · exact ⟨hb0.cell 0, hb0.cell 1, hb0.cell 2, hb1.cell 0, hb1.cell 1, hb1.cell 2⟩
            clear hK K
            try simp only [Act.put, List.setIfInBounds_toArray, List.set_cons_zero, List.set_cons_succ]
            refine wpAnyH_ready (rs := [9]) (by kernel_rfl) (by simp) ?_
            refine AllReadyH.cons rfl (fun K hK => ?_) ?_
            · have cc := h8.cell 0
              have ff := h8.frozen 0
              go_simp
              obtain ⟨Wc, hWc, hz2, hn, kb, ko⟩ := set_pack hz h8 h8l (.pointer (some ⟨g, 0, none⟩))
              rw [← hWc]
              clear hWc cc ff
              replace hz := hz2
              replace h8 := hn
              replace hb0 := kb hb0 (by decide)
              replace hb1 := kb hb1 (by decide)
              replace h9 := kb h9 (by decide)
              try replace hu := ko hu (by decide)
              try replace hrc := hrc.packed kb ko (by decide) (by decide)
              clear kb ko
              refine hK.out _ _ ?_ (fun hHeld => ?_)
              · exact ⟨hb0.cell 0, hb0.cell 1, hb0.cell 2, hb1.cell 0, hb1.cell 1, hb1.cell 2⟩
              clear hK K
              try simp only [Act.put, List.setIfInBounds_toArray]
              refine wpAnyH_ready (rs := [10]) (by kernel_rfl) (by simp) ?_
              refine AllReadyH.cons rfl (fun K hK => ?_) ?_
              · have cc := h9.cell 0
                have ff := h9.frozen 0
                go_simp
                obtain ⟨Wc, hWc, hz2, hn, kb, ko⟩ := set_pack hz h9 h9l (.slice (some ⟨ub, 0, none⟩) n n)
                rw [← hWc]
                clear hWc cc ff
                replace hz := hz2
                replace h9 := hn
                replace hb0 := kb hb0 (by decide)
                replace hb1 := kb hb1 (by decide)
                replace h8 := kb h8 (by decide)
                try replace hu := ko hu (by decide)
                try replace hrc := hrc.packed kb ko (by decide) (by decide)
                clear kb ko
                refine hK.out _ _ ?_ (fun hHeld => ?_)
                · exact ⟨hb0.cell 0, hb0.cell 1, hb0.cell 2, hb1.cell 0, hb1.cell 1, hb1.cell 2⟩
                clear hK K
                try simp only [Act.put, List.setIfInBounds_toArray]
                refine wpAnyH_done (by kernel_rfl) ?_ _
                refine NoPanic.normal ?_
                go_wp2_with fail
                go_meet
                exact ⟨g, _, _, ub, rfl, rfl, hgV, h8l, h9l, hrc, h8, h9, hu, hz⟩
              exact AllReadyH.nil
            exact AllReadyH.nil
          exact AllReadyH.nil
        exact AllReadyH.nil
      exact AllReadyH.nil
    refine AllReadyH.cons rfl (fun K hK => ?_) ?_
    · go_simp
      obtain ⟨Wc, hWc, z, h9⟩ := alloc_pack hz #[.slice none 0 0] 103
      have h9l := hz.size
      rw [← hWc]
      clear hWc
      replace hb0 := hb0.below' z
      replace hb1 := hb1.below' z
      try replace h8 := h8.below' z
      try replace hu := hu.below z
      try replace hrc := hrc.below z
      replace hz := hz.trans (z.mono hz.size)
      clear z
      refine hK.out _ _ ?_ (fun hHeld => ?_)
      · exact ⟨hb0.cell 0, hb0.cell 1, hb0.cell 2, hb1.cell 0, hb1.cell 1, hb1.cell 2⟩
      clear hK K
      try simp only [Act.put, List.setIfInBounds_toArray, List.set_cons_zero, List.set_cons_succ]
      refine wpAnyH_ready (rs := [2, 6, 7]) (by kernel_rfl) (by simp) ?_
      refine AllReadyH.cons rfl (fun K hK => ?_) ?_
      · go_simp
        refine (runnerOf_any _ _ _ _ _ _ _ _ _ xs _ _ _ ys _ (HX.out.below (y0.trans (hz.mono hv0))) (HY.out.below (y0.trans (hz.mono hv0))) hm hl).mono ?_
        rintro e Wc ⟨g, L, cl, R, cr, rfl, hgW, hrun, ol, or_, hap, z⟩
        have hrc := (NewRunner.runC hrun ol or_ hap).lo_le hz.size
        have hgV := Nat.le_trans hz.size hgW
        replace hb0 := hb0.below' z
        replace hb1 := hb1.below' z
        try replace h8 := h8.below' z
        try replace h9 := h9.below' z
        try replace hu := hu.below z
        replace hz := hz.trans (z.mono hz.size)
        clear hap hrun ol or_ z hgW
        refine hK.out _ _ ?_ (fun hHeld => ?_)
        · exact ⟨hb0.cell 0, hb0.cell 1, hb0.cell 2, hb1.cell 0, hb1.cell 1, hb1.cell 2⟩
        clear hK K
        try simp only [Act.put, List.setIfInBounds_toArray, List.set_cons_zero, List.set_cons_succ]
        refine wpAnyH_ready (rs := [6, 7]) (by kernel_rfl) (by simp) ?_
        refine AllReadyH.cons rfl (fun K hK => ?_) ?_
        · rw [if_pos (by rfl)]
          refine wp_make_Own (.tmp 20) (.tmp 20) rfl elBool (n := n) (lo := V.heap.size) rfl rfl (by omega) (by simp only [maxLen]; omega) hz.size ?_
          intro ub Wc hub hu z
          clear hub
          rw [made_bools] at hu
          replace hb0 := hb0.below' z
          replace hb1 := hb1.below' z
          try replace h8 := h8.below' z
          try replace h9 := h9.below' z
          try replace hrc := hrc.below z
          replace hz := hz.trans (z.mono hz.size)
          clear z
          refine hK.out _ _ ?_ (fun hHeld => ?_)
          · exact ⟨hb0.cell 0, hb0.cell 1, hb0.cell 2, hb1.cell 0, hb1.cell 1, hb1.cell 2⟩
          clear hK K
          try simp only [Act.put, List.setIfInBounds_toArray, List.set_cons_zero, List.set_cons_succ]
          refine wpAnyH_ready (rs := [7]) (by kernel_rfl) (by simp) ?_
          refine AllReadyH.cons rfl (fun K hK => ?_) ?_
          · go_simp
            obtain ⟨Wc, hWc, z, h8⟩ := alloc_pack hz #[.pointer none] 98
            have h8l := hz.size
            rw [← hWc]
            clear hWc
            replace hb0 := hb0.below' z
            replace hb1 := hb1.below' z
            try replace h9 := h9.below' z
            try replace hu := hu.below z
            try replace hrc := hrc.below z
            replace hz := hz.trans (z.mono hz.size)
            clear z
            refine hK.out _ _ ?_ (fun hHeld => ?_)
            · exact ⟨hb0.cell 0, hb0.cell 1, hb0.cell 2, hb1.cell 0, hb1.cell 1, hb1.cell 2⟩
            clear hK K
            try simp only [Act.put, List.setIfInBounds_toArray, List.set_cons_zero, List.set_cons_succ]
            refine wpAnyH_ready (rs := [9]) (by kernel_rfl) (by simp) ?_
            refine AllReadyH.cons rfl (fun K hK => ?_) ?_
            · have cc := h8.cell 0
              have ff := h8.frozen 0
              go_simp
              obtain ⟨Wc, hWc, hz2, hn, kb, ko⟩ := set_pack hz h8 h8l (.pointer (some ⟨g, 0, none⟩))
              rw [← hWc]
              clear hWc cc ff
              replace hz := hz2
              replace h8 := hn
              replace hb0 := kb hb0 (by decide)
              replace hb1 := kb hb1 (by decide)
              replace h9 := kb h9 (by decide)
              try replace hu := ko hu (by decide)
              try replace hrc := hrc.packed kb ko (by decide) (by decide)
              clear kb ko
              refine hK.out _ _ ?_ (fun hHeld => ?_)
              · exact ⟨hb0.cell 0, hb0.cell 1, hb0.cell 2, hb1.cell 0, hb1.cell 1, hb1.cell 2⟩
              clear hK K
              try simp only [Act.put, List.setIfInBounds_toArray]
              refine wpAnyH_ready (rs := [10]) (by kernel_rfl) (by simp) ?_
              refine AllReadyH.cons rfl (fun K hK => ?_) ?_
              · have cc := h9.cell 0
                have ff := h9.frozen 0
                go_simp
                obtain ⟨Wc, hWc, hz2, hn, kb, ko⟩ := set_pack hz h9 h9l (.slice (some ⟨ub, 0, none⟩) n n)
                rw [← hWc]
                clear hWc cc ff
                replace hz := hz2
                replace h9 := hn
                replace hb0 := kb hb0 (by decide)
                replace hb1 := kb hb1 (by decide)
                replace h8 := kb h8 (by decide)
                try replace hu := ko hu (by decide)
                try replace hrc := hrc.packed kb ko (by decide) (by decide)
                clear kb ko
                refine hK.out _ _ ?_ (fun hHeld => ?_)
                · exact ⟨hb0.cell 0, hb0.cell 1, hb0.cell 2, hb1.cell 0, hb1.cell 1, hb1.cell 2⟩
                clear hK K
                try simp only [Act.put, List.setIfInBounds_toArray]
                refine wpAnyH_done (by kernel_rfl) ?_ _
                refine NoPanic.normal ?_
                go_wp2_with fail
                go_meet
                exact ⟨g, _, _, ub, rfl, rfl, hgV, h8l, h9l, hrc, h8, h9, hu, hz⟩
              exact AllReadyH.nil
            exact AllReadyH.nil
          exact AllReadyH.nil
        refine AllReadyH.cons rfl (fun K hK => ?_) ?_
        · go_simp
          obtain ⟨Wc, hWc, z, h8⟩ := alloc_pack hz #[.pointer none] 98
          have h8l := hz.size
          rw [← hWc]
          clear hWc
          replace hb0 := hb0.below' z
          replace hb1 := hb1.below' z
          try replace h9 := h9.below' z
          try replace hu := hu.below z
          try replace hrc := hrc.below z
          replace hz := hz.trans (z.mono hz.size)
          clear z
          refine hK.out _ _ ?_ (fun hHeld => ?_)
          · exact ⟨hb0.cell 0, hb0.cell 1, hb0.cell 2, hb1.cell 0, hb1.cell 1, hb1.cell 2⟩
          clear hK K
          try simp only [Act.put, List.setIfInBounds_toArray, List.set_cons_zero, List.set_cons_succ]
          refine wpAnyH_ready (rs := [6, 9]) (by kernel_rfl) (by simp) ?_
          refine AllReadyH.cons rfl (fun K hK => ?_) ?_
          · rw [if_pos (by rfl)]
            refine wp_make_Own (.tmp 20) (.tmp 20) rfl elBool (n := n) (lo := V.heap.size) rfl rfl (by omega) (by simp only [maxLen]; omega) hz.size ?_
            intro ub Wc hub hu z
            clear hub
            rw [made_bools] at hu
            replace hb0 := hb0.below' z
            replace hb1 := hb1.below' z
            try replace h8 := h8.below' z
            try replace h9 := h9.below' z
            try replace hrc := hrc.below z
            replace hz := hz.trans (z.mono hz.size)
            clear z
            refine hK.out _ _ ?_ (fun hHeld => ?_)
            · exact ⟨hb0.cell 0, hb0.cell 1, hb0.cell 2, hb1.cell 0, hb1.cell 1, hb1.cell 2⟩
            clear hK K
            try simp only [Act.put, List.setIfInBounds_toArray, List.set_cons_zero, List.set_cons_succ]
            refine wpAnyH_ready (rs := [9]) (by kernel_rfl) (by simp) ?_
            refine AllReadyH.cons rfl (fun K hK => ?_) ?_
            · have cc := h8.cell 0
              have ff := h8.frozen 0
              go_simp
              obtain ⟨Wc, hWc, hz2, hn, kb, ko⟩ := set_pack hz h8 h8l (.pointer (some ⟨g, 0, none⟩))
              rw [← hWc]
              clear hWc cc ff
              replace hz := hz2
              replace h8 := hn
              replace hb0 := kb hb0 (by decide)
              replace hb1 := kb hb1 (by decide)
              replace h9 := kb h9 (by decide)
              try replace hu := ko hu (by decide)
              try replace hrc := hrc.packed kb ko (by decide) (by decide)
              clear kb ko
              refine hK.out _ _ ?_ (fun hHeld => ?_)
              · exact ⟨hb0.cell 0, hb0.cell 1, hb0.cell 2, hb1.cell 0, hb1.cell 1, hb1.cell 2⟩
              clear hK K
              try simp only [Act.put, List.setIfInBounds_toArray]
              refine wpAnyH_ready (rs := [10]) (by kernel_rfl) (by simp) ?_
              refine AllReadyH.cons rfl (fun K hK => ?_) ?_
              · have cc := h9.cell 0
                have ff := h9.frozen 0
                go_simp
                obtain ⟨Wc, hWc, hz2, hn, kb, ko⟩ := set_pack hz h9 h9l (.slice (some ⟨ub, 0, none⟩) n n)
                rw [← hWc]
                clear hWc cc ff
                replace hz := hz2
                replace h9 := hn
                replace hb0 := kb hb0 (by decide)
                replace hb1 := kb hb1 (by decide)
                replace h8 := kb h8 (by decide)
                try replace hu := ko hu (by decide)
                try replace hrc := hrc.packed kb ko (by decide) (by decide)
                clear kb ko
                refine hK.out _ _ ?_ (fun hHeld => ?_)
                · exact ⟨hb0.cell 0, hb0.cell 1, hb0.cell 2, hb1.cell 0, hb1.cell 1, hb1.cell 2⟩
                clear hK K
                try simp only [Act.put, List.setIfInBounds_toArray]
                refine wpAnyH_done (by kernel_rfl) ?_ _
                refine NoPanic.normal ?_
                go_wp2_with fail
                go_meet
                exact ⟨g, _, _, ub, rfl, rfl, hgV, h8l, h9l, hrc, h8, h9, hu, hz⟩
              exact AllReadyH.nil
            exact AllReadyH.nil
          refine AllReadyH.cons rfl (fun K hK => ?_) ?_
          · have cc := h8.cell 0
            have ff := h8.frozen 0
            go_simp
            obtain ⟨Wc, hWc, hz2, hn, kb, ko⟩ := set_pack hz h8 h8l (.pointer (some ⟨g, 0, none⟩))
            rw [← hWc]
            clear hWc cc ff
            replace hz := hz2
            replace h8 := hn
            replace hb0 := kb hb0 (by decide)
            replace hb1 := kb hb1 (by decide)
            replace h9 := kb h9 (by decide)
            try replace hu := ko hu (by decide)
            try replace hrc := hrc.packed kb ko (by decide) (by decide)
            clear kb ko
            refine hK.out _ _ ?_ (fun hHeld => ?_)
            · exact ⟨hb0.cell 0, hb0.cell 1, hb0.cell 2, hb1.cell 0, hb1.cell 1, hb1.cell 2⟩
            clear hK K
            try simp only [Act.put, List.setIfInBounds_toArray]
            refine wpAnyH_ready (rs := [6]) (by kernel_rfl) (by simp) ?_
            refine AllReadyH.cons rfl (fun K hK => ?_) ?_
            · rw [if_pos (by rfl)]
              refine wp_make_Own (.tmp 20) (.tmp 20) rfl elBool (n := n) (lo := V.heap.size) rfl rfl (by omega) (by simp only [maxLen]; omega) hz.size ?_
              intro ub Wc hub hu z
              clear hub
              rw [made_bools] at hu
              replace hb0 := hb0.below' z
              replace hb1 := hb1.below' z
              try replace h8 := h8.below' z
              try replace h9 := h9.below' z
              try replace hrc := hrc.below z
              replace hz := hz.trans (z.mono hz.size)
              clear z
              refine hK.out _ _ ?_ (fun hHeld => ?_)
              · exact ⟨hb0.cell 0, hb0.cell 1, hb0.cell 2, hb1.cell 0, hb1.cell 1, hb1.cell 2⟩
              clear hK K
              try simp only [Act.put, List.setIfInBounds_toArray, List.set_cons_zero, List.set_cons_succ]
              refine wpAnyH_ready (rs := [10]) (by kernel_rfl) (by simp) ?_
              refine AllReadyH.cons rfl (fun K hK => ?_) ?_
              · have cc := h9.cell 0
                have ff := h9.frozen 0
                go_simp
                obtain ⟨Wc, hWc, hz2, hn, kb, ko⟩ := set_pack hz h9 h9l (.slice (some ⟨ub, 0, none⟩) n n)
                rw [← hWc]
                clear hWc cc ff
                replace hz := hz2
                replace h9 := hn
                replace hb0 := kb hb0 (by decide)
                replace hb1 := kb hb1 (by decide)
                replace h8 := kb h8 (by decide)
                try replace hu := ko hu (by decide)
                try replace hrc := hrc.packed kb ko (by decide) (by decide)
                clear kb ko
                refine hK.out _ _ ?_ (fun hHeld => ?_)
                · exact ⟨hb0.cell 0, hb0.cell 1, hb0.cell 2, hb1.cell 0, hb1.cell 1, hb1.cell 2⟩
                clear hK K
                try simp only [Act.put, List.setIfInBounds_toArray]
                refine wpAnyH_done (by kernel_rfl) ?_ _
                refine NoPanic.normal ?_
                go_wp2_with fail
                go_meet
                exact ⟨g, _, _, ub, rfl, rfl, hgV, h8l, h9l, hrc, h8, h9, hu, hz⟩
              exact AllReadyH.nil
            exact AllReadyH.nil
          exact AllReadyH.nil
        exact AllReadyH.nil
      refine AllReadyH.cons rfl (fun K hK => ?_) ?_
      · rw [if_pos (by rfl)]
        refine wp_make_Own (.tmp 20) (.tmp 20) rfl elBool (n := n) (lo := V.heap.size) rfl rfl (by omega) (by simp only [maxLen]; omega) hz.size ?_
        intro ub Wc hub hu z
        clear hub
        rw [made_bools] at hu
        replace hb0 := hb0.below' z
        replace hb1 := hb1.below' z
        try replace h8 := h8.below' z
        try replace h9 := h9.below' z
        try replace hrc := hrc.below z
        replace hz := hz.trans (z.mono hz.size)
        clear z
        refine hK.out _ _ ?_ (fun hHeld => ?_)
        · exact ⟨hb0.cell 0, hb0.cell 1, hb0.cell 2, hb1.cell 0, hb1.cell 1, hb1.cell 2⟩
        clear hK K
        try simp only [Act.put, List.setIfInBounds_toArray, List.set_cons_zero, List.set_cons_succ]
        refine wpAnyH_ready (rs := [2, 7]) (by kernel_rfl) (by simp) ?_
        refine AllReadyH.cons rfl (fun K hK => ?_) ?_
        · go_simp
          refine (runnerOf_any _ _ _ _ _ _ _ _ _ xs _ _ _ ys _ (HX.out.below (y0.trans (hz.mono hv0))) (HY.out.below (y0.trans (hz.mono hv0))) hm hl).mono ?_
          rintro e Wc ⟨g, L, cl, R, cr, rfl, hgW, hrun, ol, or_, hap, z⟩
          have hrc := (NewRunner.runC hrun ol or_ hap).lo_le hz.size
          have hgV := Nat.le_trans hz.size hgW
          replace hb0 := hb0.below' z
          replace hb1 := hb1.below' z
          try replace h8 := h8.below' z
          try replace h9 := h9.below' z
          try replace hu := hu.below z
          replace hz := hz.trans (z.mono hz.size)
          clear hap hrun ol or_ z hgW
          refine hK.out _ _ ?_ (fun hHeld => ?_)
          · exact ⟨hb0.cell 0, hb0.cell 1, hb0.cell 2, hb1.cell 0, hb1.cell 1, hb1.cell 2⟩
          clear hK K
          try simp only [Act.put, List.setIfInBounds_toArray, List.set_cons_zero, List.set_cons_succ]
          refine wpAnyH_ready (rs := [7]) (by kernel_rfl) (by simp) ?_
          refine AllReadyH.cons rfl (fun K hK => ?_) ?_
          · go_simp
            obtain ⟨Wc, hWc, z, h8⟩ := alloc_pack hz #[.pointer none] 98
            have h8l := hz.size
            rw [← hWc]
            clear hWc
            replace hb0 := hb0.below' z
            replace hb1 := hb1.below' z
            try replace h9 := h9.below' z
            try replace hu := hu.below z
            try replace hrc := hrc.below z
            replace hz := hz.trans (z.mono hz.size)
            clear z
            refine hK.out _ _ ?_ (fun hHeld => ?_)
            · exact ⟨hb0.cell 0, hb0.cell 1, hb0.cell 2, hb1.cell 0, hb1.cell 1, hb1.cell 2⟩
            clear hK K
            try simp only [Act.put, List.setIfInBounds_toArray, List.set_cons_zero, List.set_cons_succ]
            refine wpAnyH_ready (rs := [9]) (by kernel_rfl) (by simp) ?_
            refine AllReadyH.cons rfl (fun K hK => ?_) ?_
            · have cc := h8.cell 0
              have ff := h8.frozen 0
              go_simp
              obtain ⟨Wc, hWc, hz2, hn, kb, ko⟩ := set_pack hz h8 h8l (.pointer (some ⟨g, 0, none⟩))
              rw [← hWc]
              clear hWc cc ff
              replace hz := hz2
              replace h8 := hn
              replace hb0 := kb hb0 (by decide)
              replace hb1 := kb hb1 (by decide)
              replace h9 := kb h9 (by decide)
              try replace hu := ko hu (by decide)
              try replace hrc := hrc.packed kb ko (by decide) (by decide)
              clear kb ko
              refine hK.out _ _ ?_ (fun hHeld => ?_)
              · exact ⟨hb0.cell 0, hb0.cell 1, hb0.cell 2, hb1.cell 0, hb1.cell 1, hb1.cell 2⟩
              clear hK K
              try simp only [Act.put, List.setIfInBounds_toArray]
              refine wpAnyH_ready (rs := [10]) (by kernel_rfl) (by simp) ?_
              refine AllReadyH.cons rfl (fun K hK => ?_) ?_
              · have cc := h9.cell 0
                have ff := h9.frozen 0
                go_simp
                obtain ⟨Wc, hWc, hz2, hn, kb, ko⟩ := set_pack hz h9 h9l (.slice (some ⟨ub, 0, none⟩) n n)
                rw [← hWc]
                clear hWc cc ff
                replace hz := hz2
                replace h9 := hn
                replace hb0 := kb hb0 (by decide)
                replace hb1 := kb hb1 (by decide)
                replace h8 := kb h8 (by decide)
                try replace hu := ko hu (by decide)
                try replace hrc := hrc.packed kb ko (by decide) (by decide)
                clear kb ko
                refine hK.out _ _ ?_ (fun hHeld => ?_)
                · exact ⟨hb0.cell 0, hb0.cell 1, hb0.cell 2, hb1.cell 0, hb1.cell 1, hb1.cell 2⟩
                clear hK K
                try simp only [Act.put, List.setIfInBounds_toArray]
                refine wpAnyH_done (by kernel_rfl) ?_ _
                refine NoPanic.normal ?_
                go_wp2_with fail
                go_meet
                exact ⟨g, _, _, ub, rfl, rfl, hgV, h8l, h9l, hrc, h8, h9, hu, hz⟩
              exact AllReadyH.nil
            exact AllReadyH.nil
          exact AllReadyH.nil
        refine AllReadyH.cons rfl (fun K hK => ?_) ?_
        · go_simp
          obtain ⟨Wc, hWc, z, h8⟩ := alloc_pack hz #[.pointer none] 98
          have h8l := hz.size
          rw [← hWc]
          clear hWc
          replace hb0 := hb0.below' z
          replace hb1 := hb1.below' z
          try replace h9 := h9.below' z
          try replace hu := hu.below z
          try replace hrc := hrc.below z
          replace hz := hz.trans (z.mono hz.size)
          clear z
          refine hK.out _ _ ?_ (fun hHeld => ?_)
          · exact ⟨hb0.cell 0, hb0.cell 1, hb0.cell 2, hb1.cell 0, hb1.cell 1, hb1.cell 2⟩
          clear hK K
          try simp only [Act.put, List.setIfInBounds_toArray, List.set_cons_zero, List.set_cons_succ]
          refine wpAnyH_ready (rs := [2]) (by kernel_rfl) (by simp) ?_
          refine AllReadyH.cons rfl (fun K hK => ?_) ?_
          · go_simp
            refine (runnerOf_any _ _ _ _ _ _ _ _ _ xs _ _ _ ys _ (HX.out.below (y0.trans (hz.mono hv0))) (HY.out.below (y0.trans (hz.mono hv0))) hm hl).mono ?_
            rintro e Wc ⟨g, L, cl, R, cr, rfl, hgW, hrun, ol, or_, hap, z⟩
            have hrc := (NewRunner.runC hrun ol or_ hap).lo_le hz.size
            have hgV := Nat.le_trans hz.size hgW
            replace hb0 := hb0.below' z
            replace hb1 := hb1.below' z
            try replace h8 := h8.below' z
            try replace h9 := h9.below' z
            try replace hu := hu.below z
            replace hz := hz.trans (z.mono hz.size)
            clear hap hrun ol or_ z hgW
            refine hK.out _ _ ?_ (fun hHeld => ?_)
            · exact ⟨hb0.cell 0, hb0.cell 1, hb0.cell 2, hb1.cell 0, hb1.cell 1, hb1.cell 2⟩
            clear hK K
            try simp only [Act.put, List.setIfInBounds_toArray, List.set_cons_zero, List.set_cons_succ]
            refine wpAnyH_ready (rs := [9]) (by kernel_rfl) (by simp) ?_
            refine AllReadyH.cons rfl (fun K hK => ?_) ?_
            · have cc := h8.cell 0
              have ff := h8.frozen 0
              go_simp
              obtain ⟨Wc, hWc, hz2, hn, kb, ko⟩ := set_pack hz h8 h8l (.pointer (some ⟨g, 0, none⟩))
              rw [← hWc]
              clear hWc cc ff
              replace hz := hz2
              replace h8 := hn
              replace hb0 := kb hb0 (by decide)
              replace hb1 := kb hb1 (by decide)
              replace h9 := kb h9 (by decide)
              try replace hu := ko hu (by decide)
              try replace hrc := hrc.packed kb ko (by decide) (by decide)
              clear kb ko
              refine hK.out _ _ ?_ (fun hHeld => ?_)
              · exact ⟨hb0.cell 0, hb0.cell 1, hb0.cell 2, hb1.cell 0, hb1.cell 1, hb1.cell 2⟩
              clear hK K
              try simp only [Act.put, List.setIfInBounds_toArray]
              refine wpAnyH_ready (rs := [10]) (by kernel_rfl) (by simp) ?_
              refine AllReadyH.cons rfl (fun K hK => ?_) ?_
              · have cc := h9.cell 0
                have ff := h9.frozen 0
                go_simp
                obtain ⟨Wc, hWc, hz2, hn, kb, ko⟩ := set_pack hz h9 h9l (.slice (some ⟨ub, 0, none⟩) n n)
                rw [← hWc]
                clear hWc cc ff
                replace hz := hz2
                replace h9 := hn
                replace hb0 := kb hb0 (by decide)
                replace hb1 := kb hb1 (by decide)
                replace h8 := kb h8 (by decide)
                try replace hu := ko hu (by decide)
                try replace hrc := hrc.packed kb ko (by decide) (by decide)
                clear kb ko
                refine hK.out _ _ ?_ (fun hHeld => ?_)
                · exact ⟨hb0.cell 0, hb0.cell 1, hb0.cell 2, hb1.cell 0, hb1.cell 1, hb1.cell 2⟩
                clear hK K
                try simp only [Act.put, List.setIfInBounds_toArray]
                refine wpAnyH_done (by kernel_rfl) ?_ _
                refine NoPanic.normal ?_
                go_wp2_with fail
                go_meet
                exact ⟨g, _, _, ub, rfl, rfl, hgV, h8l, h9l, hrc, h8, h9, hu, hz⟩
              exact AllReadyH.nil
            exact AllReadyH.nil
          exact AllReadyH.nil
        exact AllReadyH.nil
      refine AllReadyH.cons rfl (fun K hK => ?_) ?_
      · go_simp
        obtain ⟨Wc, hWc, z, h8⟩ := alloc_pack hz #[.pointer none] 98
        have h8l := hz.size
        rw [← hWc]
        clear hWc
        replace hb0 := hb0.below' z
        replace hb1 := hb1.below' z
        try replace h9 := h9.below' z
        try replace hu := hu.below z
        try replace hrc := hrc.below z
        replace hz := hz.trans (z.mono hz.size)
        clear z
        refine hK.out _ _ ?_ (fun hHeld => ?_)
        · exact ⟨hb0.cell 0, hb0.cell 1, hb0.cell 2, hb1.cell 0, hb1.cell 1, hb1.cell 2⟩
        clear hK K
        try simp only [Act.put, List.setIfInBounds_toArray, List.set_cons_zero, List.set_cons_succ]
        refine wpAnyH_ready (rs := [2, 6]) (by kernel_rfl) (by simp) ?_
        refine AllReadyH.cons rfl (fun K hK => ?_) ?_
        · go_simp
          refine (runnerOf_any _ _ _ _ _ _ _ _ _ xs _ _ _ ys _ (HX.out.below (y0.trans (hz.mono hv0))) (HY.out.below (y0.trans (hz.mono hv0))) hm hl).mono ?_
          rintro e Wc ⟨g, L, cl, R, cr, rfl, hgW, hrun, ol, or_, hap, z⟩
          have hrc := (NewRunner.runC hrun ol or_ hap).lo_le hz.size
          have hgV := Nat.le_trans hz.size hgW
          replace hb0 := hb0.below' z
          replace hb1 := hb1.below' z
          try replace h8 := h8.below' z
          try replace h9 := h9.below' z
          try replace hu := hu.below z
          replace hz := hz.trans (z.mono hz.size)
          clear hap hrun ol or_ z hgW
          refine hK.out _ _ ?_ (fun hHeld => ?_)
          · exact ⟨hb0.cell 0, hb0.cell 1, hb0.cell 2, hb1.cell 0, hb1.cell 1, hb1.cell 2⟩
          clear hK K
          try simp only [Act.put, List.setIfInBounds_toArray, List.set_cons_zero, List.set_cons_succ]
          refine wpAnyH_ready (rs := [6, 9]) (by kernel_rfl) (by simp) ?_
          refine AllReadyH.cons rfl (fun K hK => ?_) ?_
          · rw [if_pos (by rfl)]
            refine wp_make_Own (.tmp 20) (.tmp 20) rfl elBool (n := n) (lo := V.heap.size) rfl rfl (by omega) (by simp only [maxLen]; omega) hz.size ?_
            intro ub Wc hub hu z
            clear hub
            rw [made_bools] at hu
            replace hb0 := hb0.below' z
            replace hb1 := hb1.below' z
            try replace h8 := h8.below' z
            try replace h9 := h9.below' z
            try replace hrc := hrc.below z
            replace hz := hz.trans (z.mono hz.size)
            clear z
            refine hK.out _ _ ?_ (fun hHeld => ?_)
            · exact ⟨hb0.cell 0, hb0.cell 1, hb0.cell 2, hb1.cell 0, hb1.cell 1, hb1.cell 2⟩
            clear hK K
            try simp only [Act.put, List.setIfInBounds_toArray, List.set_cons_zero, List.set_cons_succ]
            refine wpAnyH_ready (rs := [9]) (by kernel_rfl) (by simp) ?_
            refine AllReadyH.cons rfl (fun K hK => ?_) ?_
            · have cc := h8.cell 0
              have ff := h8.frozen 0
              go_simp
              obtain ⟨Wc, hWc, hz2, hn, kb, ko⟩ := set_pack hz h8 h8l (.pointer (some ⟨g, 0, none⟩))
              rw [← hWc]
              clear hWc cc ff
              replace hz := hz2
              replace h8 := hn
              replace hb0 := kb hb0 (by decide)
              replace hb1 := kb hb1 (by decide)
              replace h9 := kb h9 (by decide)
              try replace hu := ko hu (by decide)
              try replace hrc := hrc.packed kb ko (by decide) (by decide)
              clear kb ko
              refine hK.out _ _ ?_ (fun hHeld => ?_)
              · exact ⟨hb0.cell 0, hb0.cell 1, hb0.cell 2, hb1.cell 0, hb1.cell 1, hb1.cell 2⟩
              clear hK K
              try simp only [Act.put, List.setIfInBounds_toArray]
              refine wpAnyH_ready (rs := [10]) (by kernel_rfl) (by simp) ?_
              refine AllReadyH.cons rfl (fun K hK => ?_) ?_
              · have cc := h9.cell 0
                have ff := h9.frozen 0
                go_simp
                obtain ⟨Wc, hWc, hz2, hn, kb, ko⟩ := set_pack hz h9 h9l (.slice (some ⟨ub, 0, none⟩) n n)
                rw [← hWc]
                clear hWc cc ff
                replace hz := hz2
                replace h9 := hn
                replace hb0 := kb hb0 (by decide)
                replace hb1 := kb hb1 (by decide)
                replace h8 := kb h8 (by decide)
                try replace hu := ko hu (by decide)
                try replace hrc := hrc.packed kb ko (by decide) (by decide)
                clear kb ko
                refine hK.out _ _ ?_ (fun hHeld => ?_)
                · exact ⟨hb0.cell 0, hb0.cell 1, hb0.cell 2, hb1.cell 0, hb1.cell 1, hb1.cell 2⟩
                clear hK K
                try simp only [Act.put, List.setIfInBounds_toArray]
                refine wpAnyH_done (by kernel_rfl) ?_ _
                refine NoPanic.normal ?_
                go_wp2_with fail
                go_meet
                exact ⟨g, _, _, ub, rfl, rfl, hgV, h8l, h9l, hrc, h8, h9, hu, hz⟩
              exact AllReadyH.nil
            exact AllReadyH.nil
          refine AllReadyH.cons rfl (fun K hK => ?_) ?_
          · have cc := h8.cell 0
            have ff := h8.frozen 0
            go_simp
            obtain ⟨Wc, hWc, hz2, hn, kb, ko⟩ := set_pack hz h8 h8l (.pointer (some ⟨g, 0, none⟩))
            rw [← hWc]
            clear hWc cc ff
            replace hz := hz2
            replace h8 := hn
            replace hb0 := kb hb0 (by decide)
            replace hb1 := kb hb1 (by decide)
            replace h9 := kb h9 (by decide)
            try replace hu := ko hu (by decide)
            try replace hrc := hrc.packed kb ko (by decide) (by decide)
            clear kb ko
            refine hK.out _ _ ?_ (fun hHeld => ?_)
            · exact ⟨hb0.cell 0, hb0.cell 1, hb0.cell 2, hb1.cell 0, hb1.cell 1, hb1.cell 2⟩
            clear hK K
            try simp only [Act.put, List.setIfInBounds_toArray]
            refine wpAnyH_ready (rs := [6]) (by kernel_rfl) (by simp) ?_
            refine AllReadyH.cons rfl (fun K hK => ?_) ?_
            · rw [if_pos (by rfl)]
              refine wp_make_Own (.tmp 20) (.tmp 20) rfl elBool (n := n) (lo := V.heap.size) rfl rfl (by omega) (by simp only [maxLen]; omega) hz.size ?_
              intro ub Wc hub hu z
              clear hub
              rw [made_bools] at hu
              replace hb0 := hb0.below' z
              replace hb1 := hb1.below' z
              try replace h8 := h8.below' z
              try replace h9 := h9.below' z
              try replace hrc := hrc.below z
              replace hz := hz.trans (z.mono hz.size)
              clear z
              refine hK.out _ _ ?_ (fun hHeld => ?_)
              · exact ⟨hb0.cell 0, hb0.cell 1, hb0.cell 2, hb1.cell 0, hb1.cell 1, hb1.cell 2⟩
              clear hK K
              try simp only [Act.put, List.setIfInBounds_toArray, List.set_cons_zero, List.set_cons_succ]
              refine wpAnyH_ready (rs := [10]) (by kernel_rfl) (by simp) ?_
              refine AllReadyH.cons rfl (fun K hK => ?_) ?_
              · have cc := h9.cell 0
                have ff := h9.frozen 0
                go_simp
                obtain ⟨Wc, hWc, hz2, hn, kb, ko⟩ := set_pack hz h9 h9l (.slice (some ⟨ub, 0, none⟩) n n)
                rw [← hWc]
                clear hWc cc ff
                replace hz := hz2
                replace h9 := hn
                replace hb0 := kb hb0 (by decide)
                replace hb1 := kb hb1 (by decide)
                replace h8 := kb h8 (by decide)
                try replace hu := ko hu (by decide)
                try replace hrc := hrc.packed kb ko (by decide) (by decide)
                clear kb ko
                refine hK.out _ _ ?_ (fun hHeld => ?_)
                · exact ⟨hb0.cell 0, hb0.cell 1, hb0.cell 2, hb1.cell 0, hb1.cell 1, hb1.cell 2⟩
                clear hK K
                try simp only [Act.put, List.setIfInBounds_toArray]
                refine wpAnyH_done (by kernel_rfl) ?_ _
                refine NoPanic.normal ?_
                go_wp2_with fail
                go_meet
                exact ⟨g, _, _, ub, rfl, rfl, hgV, h8l, h9l, hrc, h8, h9, hu, hz⟩
              exact AllReadyH.nil
            exact AllReadyH.nil
          exact AllReadyH.nil
        refine AllReadyH.cons rfl (fun K hK => ?_) ?_
        · rw [if_pos (by rfl)]
          refine wp_make_Own (.tmp 20) (.tmp 20) rfl elBool (n := n) (lo := V.heap.size) rfl rfl (by omega) (by simp only [maxLen]; omega) hz.size ?_
          intro ub Wc hub hu z
          clear hub
          rw [made_bools] at hu
          replace hb0 := hb0.below' z
          replace hb1 := hb1.below' z
          try replace h8 := h8.below' z
          try replace h9 := h9.below' z
          try replace hrc := hrc.below z
          replace hz := hz.trans (z.mono hz.size)
          clear z
          refine hK.out _ _ ?_ (fun hHeld => ?_)
          · exact ⟨hb0.cell 0, hb0.cell 1, hb0.cell 2, hb1.cell 0, hb1.cell 1, hb1.cell 2⟩
          clear hK K
          try simp only [Act.put, List.setIfInBounds_toArray, List.set_cons_zero, List.set_cons_succ]
          refine wpAnyH_ready (rs := [2]) (by kernel_rfl) (by simp) ?_
          refine AllReadyH.cons rfl (fun K hK => ?_) ?_
          · go_simp
            refine (runnerOf_any _ _ _ _ _ _ _ _ _ xs _ _ _ ys _ (HX.out.below (y0.trans (hz.mono hv0))) (HY.out.below (y0.trans (hz.mono hv0))) hm hl).mono ?_
            rintro e Wc ⟨g, L, cl, R, cr, rfl, hgW, hrun, ol, or_, hap, z⟩
            have hrc := (NewRunner.runC hrun ol or_ hap).lo_le hz.size
            have hgV := Nat.le_trans hz.size hgW
            replace hb0 := hb0.below' z
            replace hb1 := hb1.below' z
            try replace h8 := h8.below' z
            try replace h9 := h9.below' z
            try replace hu := hu.below z
            replace hz := hz.trans (z.mono hz.size)
            clear hap hrun ol or_ z hgW
            refine hK.out _ _ ?_ (fun hHeld => ?_)
            · exact ⟨hb0.cell 0, hb0.cell 1, hb0.cell 2, hb1.cell 0, hb1.cell 1, hb1.cell 2⟩
            clear hK K
            try simp only [Act.put, List.setIfInBounds_toArray, List.set_cons_zero, List.set_cons_succ]
            refine wpAnyH_ready (rs := [9]) (by kernel_rfl) (by simp) ?_
            refine AllReadyH.cons rfl (fun K hK => ?_) ?_
            · have cc := h8.cell 0
              have ff := h8.frozen 0
              go_simp
              obtain ⟨Wc, hWc, hz2, hn, kb, ko⟩ := set_pack hz h8 h8l (.pointer (some ⟨g, 0, none⟩))
              rw [← hWc]
              clear hWc cc ff
              replace hz := hz2
              replace h8 := hn
              replace hb0 := kb hb0 (by decide)
              replace hb1 := kb hb1 (by decide)
              replace h9 := kb h9 (by decide)
              try replace hu := ko hu (by decide)
              try replace hrc := hrc.packed kb ko (by decide) (by decide)
              clear kb ko
              refine hK.out _ _ ?_ (fun hHeld => ?_)
              · exact ⟨hb0.cell 0, hb0.cell 1, hb0.cell 2, hb1.cell 0, hb1.cell 1, hb1.cell 2⟩
              clear hK K
              try simp only [Act.put, List.setIfInBounds_toArray]
              refine wpAnyH_ready (rs := [10]) (by kernel_rfl) (by simp) ?_
              refine AllReadyH.cons rfl (fun K hK => ?_) ?_
              · have cc := h9.cell 0
                have ff := h9.frozen 0
                go_simp
                obtain ⟨Wc, hWc, hz2, hn, kb, ko⟩ := set_pack hz h9 h9l (.slice (some ⟨ub, 0, none⟩) n n)
                rw [← hWc]
                clear hWc cc ff
                replace hz := hz2
                replace h9 := hn
                replace hb0 := kb hb0 (by decide)
                replace hb1 := kb hb1 (by decide)
                replace h8 := kb h8 (by decide)
                try replace hu := ko hu (by decide)
                try replace hrc := hrc.packed kb ko (by decide) (by decide)
                clear kb ko
                refine hK.out _ _ ?_ (fun hHeld => ?_)
                · exact ⟨hb0.cell 0, hb0.cell 1, hb0.cell 2, hb1.cell 0, hb1.cell 1, hb1.cell 2⟩
                clear hK K
                try simp only [Act.put, List.setIfInBounds_toArray]
                refine wpAnyH_done (by kernel_rfl) ?_ _
                refine NoPanic.normal ?_
                go_wp2_with fail
                go_meet
                exact ⟨g, _, _, ub, rfl, rfl, hgV, h8l, h9l, hrc, h8, h9, hu, hz⟩
              exact AllReadyH.nil
            exact AllReadyH.nil
          exact AllReadyH.nil
        exact AllReadyH.nil
      exact AllReadyH.nil
    exact AllReadyH.nil
  case rest =>
    obtain ⟨g, b8, b9, ub, rfl, rfl, hgV, h8l, h9l, hrc, h8, h9, hu, hz⟩ := hcut
    have s3 := b2.below' hz
    have s1 := b3.below' hz
    have s2 := b4.below' hz
    have hVc := hz.size
    have hv0 := y0.size
    have hwc : Below w.heap.size w wc := y0.trans (hz.mono y0.size)
    have c3 : wc.cell? ⟨w.heap.size + 1 + 1, 0, none⟩ = some (.int .i64 (N : Int)) := s3.cell 0
    have c8 : wc.cell? ⟨b8, 0, none⟩ = some (.pointer (some ⟨g, 0, none⟩)) := h8.cell 0
    have hgc : g < wc.heap.size := by obtain ⟨L, cl, R, d, hr, _⟩ := hrc; exact Blk.lt hr
    have h8c := h8.lt
    have h9c := h9.lt
    have huc : ub < wc.heap.size := hu.blk_lt _ rfl
    go_wp2_with fail
    refine (steps_any _ _ _).mono ?_
    rintro e W6 ⟨rfl, hW6⟩
    have r6 : Blk W6 wc.heap.size 98 #[.pointer (some ⟨g, 0, none⟩)] := by rw [hW6]; exact (Blk.new wc _ _).alloc _
    have m6 : Blk W6 (wc.heap.size + 1) 2 #[.int .i64 (N : Int)] := by rw [hW6]; simpa using Blk.new (wc.alloc (.cells #[.pointer (some ⟨g, 0, none⟩)] 98)) 2 #[.int .i64 (N : Int)]
    have z6 : Below wc.heap.size wc W6 := by rw [hW6]; exact ((Below.refl _ _).alloc (Nat.le_refl _) _).alloc (by simp) _
    clear hW6 c3 c8
    have z06 : Below w.heap.size w W6 := hwc.trans (z6.mono hwc.size)
    obtain ⟨p, hp⟩ : ∃ p : Rn, p = ⟨w, g, wc.heap.size + 1, wc.heap.size, sy, st, A, n, k, rs, ⟨q, xs, ys⟩, N⟩ := ⟨_, rfl⟩
    have hok : p.Ok := by rw [hp]; exact ⟨hg, hr, by show w.heap.size ≤ g; omega, hn, by have := (inB_iff _ _ _).1 H1.out; show N ≤ 1000000; omega⟩
    have hpst : p.sy = sy ∧ p.rs = rs ∧ p.c = ⟨q, xs, ys⟩ ∧ p.most = N := by rw [hp]; exact ⟨rfl, rfl, rfl, rfl⟩
    have hSt : StS p 0 (usdD V.heap.size p.most g p.sy p.rs p.c n (w.heap.size + 1 + 1 + 1) (w.heap.size + 1 + 1 + 1 + 1) (w.heap.size + 1 + 1) b8 b9 ub 0) W6 := by
      rw [hp]
      obtain ⟨X, hO, hX⟩ := StO.start2 (p := ⟨w, g, wc.heap.size + 1, wc.heap.size, sy, st, A, n, k, rs, ⟨q, xs, ys⟩, N⟩) (w := wc) hrc hv0 hgV z06 z6 m6 r6 (by show wc.heap.size ≤ wc.heap.size + 1; omega) (by show wc.heap.size ≤ wc.heap.size; omega)
      have hu6 := hu.below z6
      obtain ⟨cur, hcur⟩ := hu6.blk_of (b := ub) rfl
      have s1' := s1.below' z6
      have s2' := s2.below' z6
      have s3' := s3.below' z6
      have h8' := h8.below' z6
      have h9' := h9.below' z6
      exact hO.st ⟨hX _ _ _ s1' (.inl (by omega)), hX _ _ _ s2' (.inl (by omega)), hX _ _ _ s3' (.inl (by omega)), hX _ _ _ h8' (.inr (.inr (by decide))), hX _ _ _ h9' (.inr (.inr (by decide))), hX _ _ _ hcur (.inr (.inr (by decide))), s1', s2', s3', h8', h9', hu6⟩
    have HST := Lib.hid hSt
    clear hSt r6 m6 hrc z6 s1 s2 s3 h8 h9 hu b0 b1 b2 b3 b4 hz
    have hpm : p.mb = wc.heap.size + 1 := by rw [hp]
    have hpr : p.rb = wc.heap.size := by rw [hp]
    have hpw : p.w0 = w := by rw [hp]
    have HPM := Lib.hid hpm
    have HPR := Lib.hid hpr
    have HPW := Lib.hid hpw
    have HP := Lib.hid hp
    have HPS := Lib.hid hpst
    clear hpm hpr hpw hp hpst
    have hpb : p.w0.heap.size ≤ W6.heap.size := by rw [HPW.out]; exact z06.size
    obtain ⟨D, hD⟩ : ∃ D, D = usdD V.heap.size p.most g p.sy p.rs p.c n (w.heap.size + 1 + 1 + 1) (w.heap.size + 1 + 1 + 1 + 1) (w.heap.size + 1 + 1) b8 b9 ub := ⟨_, rfl⟩
    have hDst : ∀ i, StD (D i) := by rw [hD]; exact usdD_st _ _ _ _ _ _ _ _ _ _ _ _ _
    rw [← hD] at HST
    have HD := Lib.hid hD
    clear hD
    have hseq := steps1_seq p hok D hDst (usdJx p (w.heap.size + 1 + 1 + 1) (w.heap.size + 1 + 1 + 1 + 1)) 2
    rw [HPM.out, HPR.out] at hseq
    go_wp2_with fail
    refine (wpIn_wide (n := 3)).1 (wpIn_rangeFunc_st rfl (by decide) (gf := 171) (lb := #[.pointer (some ⟨wc.heap.size + 1, 0, none⟩), .pointer (some ⟨wc.heap.size, 0, none⟩)]) rfl trivial (enters_of Try.func171 (by kernel_rfl) rfl) hseq (fun _ => rfl)
      (stJ_put hDst hpb) (stJ'_put hDst hpb) (fun c x => usdJx_put hpb) (stFin_put hDst hpb) (fun c W l o o' ⟨x, hx⟩ h1 h2 h3 => ⟨x, usdJx_put hpb W l o o' hx h1 h2 h3⟩)
      (fun r => (HST.out.fr (hDst 0) ((Below.refl _ _).alloc (Nat.le_refl _) _)).fr (hDst 0) ((Below.refl _ _).alloc (Nat.le_refl _) _))
      ?a1 ?assign ?body ?done ?stop)
    case assign =>
      intro l x W K hK
      gi_wp2
      exact hK
    case body =>
      rintro l ⟨i, b⟩ W hl hJ
      cases b
      · obtain ⟨⟨j, rfl, hfull⟩, hz, X, hXC, hd⟩ := hJ
        rw [HD.out] at hd
        obtain ⟨hX1, hX2, _, _, _, _, b1, b2, _⟩ := hd
        have HF := Lib.hid hfull
        clear hfull
        have c1 : W.cell? ⟨w.heap.size + 1 + 1 + 1, 0, none⟩ = some (.slice none 0 0) := b1.cell 0
        have c2 : W.cell? ⟨w.heap.size + 1 + 1 + 1 + 1, 0, none⟩ = some (.int .i64 0) := b2.cell 0
        have f1 := b1.frozen 0
        have f2 := b2.frozen 0
        gi_wp2
        refine ⟨(KeepsOthers.setCell _ _ _).trans (KeepsOthers.setCell _ _ _), rfl, ⟨j, HF.out⟩, ?_, ?_, ?_⟩
        · rw [HPW.out] at hz ⊢
          exact (hz.setCell (p := ⟨w.heap.size + 1 + 1 + 1, 0, none⟩) (show w.heap.size ≤ w.heap.size + 1 + 1 + 1 by omega) _).setCell (p := ⟨w.heap.size + 1 + 1 + 1 + 1, 0, none⟩) (show w.heap.size ≤ w.heap.size + 1 + 1 + 1 + 1 by omega) _
        · exact (b1.set_ 0 _).far (p := ⟨w.heap.size + 1 + 1 + 1 + 1, 0, none⟩) (show w.heap.size + 1 + 1 + 1 ≠ w.heap.size + 1 + 1 + 1 + 1 by omega) _
        · exact (b2.far (p := ⟨w.heap.size + 1 + 1 + 1, 0, none⟩) (show w.heap.size + 1 + 1 + 1 + 1 ≠ w.heap.size + 1 + 1 + 1 by omega) _).set_ 0 _
      · obtain ⟨hi, hal, hst⟩ := hJ
        have hst0 := hst
        obtain ⟨X, hO, hd⟩ := hst.op
        have hd0 := hd
        rw [HD.out] at hd0
        obtain ⟨x1, x2, x3, x4, x5, x6, e1, e2, e3, e8, e9, eu⟩ := id hd0
        have HAL := Lib.hid hal
        have HGI := Lib.hid (HAL.out.good hok.good)
        have HO := Lib.hid hO
        have HD0 := Lib.hid hd0
        have HS0 := Lib.hid hst0
        have hrs3 : S3 W p.A p.n p.rs := hok.rules.below hO.low
        have hhalt := halts_c hO.run hrs3 HGI.out hok.hn
        rw [show p.g = g by rw [HP.out]] at hhalt
        have HHALT := Lib.hid hhalt
        have him : p.most = N := HPS.out.2.2.2
        have k3 : W.cell? ⟨w.heap.size + 1 + 1, 0, none⟩ = some (.int .i64 (p.most : Int)) := e3.cell 0
        have k8 : W.cell? ⟨b8, 0, none⟩ = some (.pointer (some ⟨g, 0, none⟩)) := e8.cell 0
        have HIM := Lib.hid him
        clear hal hO hd hd0 hst hst0 hhalt hrs3 him x1 x2 x3 x4 x5 x6 e1 e2
        by_cases hlt : i < p.most
        · gi_wp2
          refine ⟨trivial, (CallsIn.inRound l (callsIn_wide.2 HHALT.out)).mono ?_⟩
          rintro e W7 ⟨rfl, z7⟩
          cases hh : haltC p.sy p.rs (p.it i) with
          | true =>
            have HH := Lib.hid hh
            clear hh
            gi_wp2
            refine ⟨keeps_below z7, hi, HAL.out, ?_⟩
            have h7 := HS0.out.fr (hDst i) z7
            obtain ⟨X', hO', hd'⟩ := h7.op
            refine hO'.st ?_
            rw [HD.out] at hd' ⊢
            exact usdD_stay (fun h => by rw [HH.out] at h; cases h.2) hd'
          | false =>
            have HH := Lib.hid hh
            clear hh
            obtain ⟨hidx, hat⟩ := idxC_lt HGI.out
            have hidn : idxC p.sy (itC p.sy p.rs p.c i) < n := by
              have hpn : p.n = n := by rw [HP.out]
              rw [hok.rules.len] at hidx
              omega
            have e87 := e8.below' z7
            have e97 := e9.below' z7
            have eu7 := eu.below z7
            have hatc := at_c ((HO.out.run.below z7).below (below_drewN (Below.refl _ _) 1)) HGI.out
            rw [hat, show p.g = g by rw [HP.out]] at hatc
            have HATC : Hid (Calls Try.prog 128 #[.pointer (some ⟨g, 0, none⟩)] W7.drew fun e w' => e = .returned (.int .i64 (idxC p.sy (p.it i) : Int)) ∧ ∃ nq, w' = W7.drew.drewN nq) := Lib.hid hatc
            clear hat hatc hidx k3 k8 HHALT
            obtain ⟨ix, hix⟩ : ∃ ix, ix = idxC p.sy (p.it i) := ⟨_, rfl⟩
            rw [← hix] at HATC hidn
            have HIX := Lib.hid hix
            clear hix
            have i1 : (0 : Int) ≤ (ix : Int) := by omega
            have i2 : (ix : Int) < (n : Int) := by omega
            have hlu : ix < (bools (usedR p.sy p.rs p.c n p.most i)).length := by rw [length_bools, usedR_len]; exact hidn
            obtain ⟨b', off', hab, hlo8, hb8, hcc, hff⟩ := eu7.at_ hlu
            simp only [Option.some.injEq, Addr.mk.injEq, and_true] at hab
            obtain ⟨rfl, rfl⟩ := hab
            simp only [Nat.zero_add] at hcc hff
            have k8 : W7.cell? ⟨b8, 0, none⟩ = some (.pointer (some ⟨g, 0, none⟩)) := e87.cell 0
            have k9 : W7.cell? ⟨b9, 0, none⟩ = some (.slice (some ⟨ub, 0, none⟩) n n) := e97.cell 0
            gi_wp2
            refine wpIn_region_any (by kernel_rfl) ?_
            try (change wpAnyIn _ _ _ _ _ _ _ _ _ (World.drew _))
            refine wpAnyIn_ready (rs := [0, 1]) (by kernel_rfl) (by simp) ?_
            refine AllReadyIn.cons rfl (fun K hK => ?_) ?_
            · go_simp
              refine hK _ _ ?_
              clear hK K
              try simp only [Act.put, List.setIfInBounds_toArray, List.set_cons_zero, List.set_cons_succ]
              refine wpAnyIn_ready (rs := [1]) (by kernel_rfl) (by simp) ?_
              refine AllReadyIn.cons rfl (fun K hK => ?_) ?_
              · go_simp
                refine hK _ _ ?_
                clear hK K
                try simp only [Act.put, List.setIfInBounds_toArray, List.set_cons_zero, List.set_cons_succ]
                refine wpAnyIn_ready (rs := [2]) (by kernel_rfl) (by simp) ?_
                refine AllReadyIn.cons rfl (fun K hK => ?_) ?_
                · go_simp
                  refine ⟨trivial, (CallsIn.inRound l (callsIn_wide.2 HATC.out)).mono ?_⟩
                  rintro e w' ⟨rfl, nq, rfl⟩
                  refine hK _ _ ?_
                  clear hK K
                  try simp only [Act.put, List.setIfInBounds_toArray, List.set_cons_zero, List.set_cons_succ]
                  refine wpAnyIn_ready (rs := [3]) (by kernel_rfl) (by simp) ?_
                  refine AllReadyIn.cons rfl (fun K hK => ?_) ?_
                  · go_simp
                    refine hK _ _ ?_
                    clear hK K
                    try simp only [Act.put, List.setIfInBounds_toArray, List.set_cons_zero, List.set_cons_succ]
                    refine wpAnyIn_ready (rs := [4]) (by kernel_rfl) (by simp) ?_
                    refine AllReadyIn.cons rfl (fun K hK => ?_) ?_
                    · go_simp
                      refine hK _ _ ?_
                      clear hK K
                      try simp only [Act.put, List.setIfInBounds_toArray]
                      refine wpAnyIn_done (by kernel_rfl) ?_ _
                      gi_wp2
                      obtain ⟨j1, j2⟩ := usd_round HO.out HD0.out (below_drewN z7 (1 + nq)) hlt HH.out HIX.out.symm hidn (by rw [HPW.out]; exact hv0)
                      exact ⟨j1, hi, HAL.out, by rw [HD.out]; exact j2⟩
                    exact AllReadyIn.nil
                  exact AllReadyIn.nil
                exact AllReadyIn.nil
              exact AllReadyIn.nil
            refine AllReadyIn.cons rfl (fun K hK => ?_) ?_
            · go_simp
              refine hK _ _ ?_
              clear hK K
              try simp only [Act.put, List.setIfInBounds_toArray, List.set_cons_zero, List.set_cons_succ]
              refine wpAnyIn_ready (rs := [0, 2]) (by kernel_rfl) (by simp) ?_
              refine AllReadyIn.cons rfl (fun K hK => ?_) ?_
              · go_simp
                refine hK _ _ ?_
                clear hK K
                try simp only [Act.put, List.setIfInBounds_toArray, List.set_cons_zero, List.set_cons_succ]
                refine wpAnyIn_ready (rs := [2]) (by kernel_rfl) (by simp) ?_
                refine AllReadyIn.cons rfl (fun K hK => ?_) ?_
                · go_simp
                  refine ⟨trivial, (CallsIn.inRound l (callsIn_wide.2 HATC.out)).mono ?_⟩
                  rintro e w' ⟨rfl, nq, rfl⟩
                  refine hK _ _ ?_
                  clear hK K
                  try simp only [Act.put, List.setIfInBounds_toArray, List.set_cons_zero, List.set_cons_succ]
                  refine wpAnyIn_ready (rs := [3]) (by kernel_rfl) (by simp) ?_
                  refine AllReadyIn.cons rfl (fun K hK => ?_) ?_
                  · go_simp
                    refine hK _ _ ?_
                    clear hK K
                    try simp only [Act.put, List.setIfInBounds_toArray, List.set_cons_zero, List.set_cons_succ]
                    refine wpAnyIn_ready (rs := [4]) (by kernel_rfl) (by simp) ?_
                    refine AllReadyIn.cons rfl (fun K hK => ?_) ?_
                    · go_simp
                      refine hK _ _ ?_
                      clear hK K
                      try simp only [Act.put, List.setIfInBounds_toArray]
                      refine wpAnyIn_done (by kernel_rfl) ?_ _
                      gi_wp2
                      obtain ⟨j1, j2⟩ := usd_round HO.out HD0.out (below_drewN z7 (1 + nq)) hlt HH.out HIX.out.symm hidn (by rw [HPW.out]; exact hv0)
                      exact ⟨j1, hi, HAL.out, by rw [HD.out]; exact j2⟩
                    exact AllReadyIn.nil
                  exact AllReadyIn.nil
                exact AllReadyIn.nil
              refine AllReadyIn.cons rfl (fun K hK => ?_) ?_
              · go_simp
                refine ⟨trivial, (CallsIn.inRound l (callsIn_wide.2 HATC.out)).mono ?_⟩
                rintro e w' ⟨rfl, nq, rfl⟩
                refine hK _ _ ?_
                clear hK K
                try simp only [Act.put, List.setIfInBounds_toArray, List.set_cons_zero, List.set_cons_succ]
                refine wpAnyIn_ready (rs := [0]) (by kernel_rfl) (by simp) ?_
                refine AllReadyIn.cons rfl (fun K hK => ?_) ?_
                · go_simp
                  refine hK _ _ ?_
                  clear hK K
                  try simp only [Act.put, List.setIfInBounds_toArray, List.set_cons_zero, List.set_cons_succ]
                  refine wpAnyIn_ready (rs := [3]) (by kernel_rfl) (by simp) ?_
                  refine AllReadyIn.cons rfl (fun K hK => ?_) ?_
                  · go_simp
                    refine hK _ _ ?_
                    clear hK K
                    try simp only [Act.put, List.setIfInBounds_toArray, List.set_cons_zero, List.set_cons_succ]
                    refine wpAnyIn_ready (rs := [4]) (by kernel_rfl) (by simp) ?_
                    refine AllReadyIn.cons rfl (fun K hK => ?_) ?_
                    · go_simp
                      refine hK _ _ ?_
                      clear hK K
                      try simp only [Act.put, List.setIfInBounds_toArray]
                      refine wpAnyIn_done (by kernel_rfl) ?_ _
                      gi_wp2
                      obtain ⟨j1, j2⟩ := usd_round HO.out HD0.out (below_drewN z7 (1 + nq)) hlt HH.out HIX.out.symm hidn (by rw [HPW.out]; exact hv0)
                      exact ⟨j1, hi, HAL.out, by rw [HD.out]; exact j2⟩
                    exact AllReadyIn.nil
                  exact AllReadyIn.nil
                exact AllReadyIn.nil
              exact AllReadyIn.nil
            exact AllReadyIn.nil
        · gi_wp2
          refine ⟨trivial, ?_⟩
          gi_wp2
          refine ⟨KeepsOthers.refl _, hi, HAL.out, ?_⟩
          obtain ⟨X', hO', hd'⟩ := HS0.out.op
          refine hO'.st ?_
          rw [HD.out] at hd' ⊢
          exact usdD_stay (fun h => hlt h.1) hd'
    case done =>
      rintro D' W hD' ⟨i, hend, hst⟩ hK
      obtain ⟨e1, e2, e3, e4⟩ := HPS.out
      rw [e1, e2, e3, e4] at hend
      obtain ⟨X, hO, hd⟩ := hst.op
      rw [HD.out] at hd
      obtain ⟨x1, x2, x3, x4, x5, x6, b1, b2, b3, b8', b9', hu⟩ := hd
      have HE := Lib.hid (usedRulesF_ended hg H1.out hend)
      have hue : usedR p.sy p.rs p.c n p.most (i + 1) = usedL sy rs ⟨q, xs, ys⟩ rs.length i := by rw [e1, e2, e3, e4, usedR_ended hend, hr.len]
      rw [hue] at hu
      have hul : (usedL sy rs ⟨q, xs, ys⟩ rs.length i).length = n := by rw [usedL_len, hr.len]
      have hz : Below w.heap.size w W := by have := hO.low; rwa [HPW.out] at this
      clear hO hst hend hue e1 e2 e3 e4
      generalize usedL sy rs ⟨q, xs, ys⟩ rs.length i = bs at *
      have HBL := Lib.hid hul
      clear hul x1 x2 x3 x4 x5 x6 b3 b8'
      have c9 : W.cell? ⟨b9, 0, none⟩ = some (.slice (some ⟨ub, 0, none⟩) n n) := b9'.cell 0
      have hb9l := b9'.lt
      obtain ⟨W8, hW_⟩ : ∃ W_, W_ = W.alloc (.cells #[] 2) := ⟨_, rfl⟩
      have t8 : Blk W8 W.heap.size 2 #[] := by rw [hW_]; exact Blk.new W _ _
      have z8 : Below W.heap.size W W8 := by rw [hW_]; exact (Below.refl _ _).alloc (Nat.le_refl _) _
      have HW8 := Lib.hid hW_
      clear hW_
      have y8 := hz.trans (z8.mono hz.size)
      have hb8 := hu.below z8
      have b18 := b1.below' z8
      have b28 := b2.below' z8
      have b98 := b9'.below' z8
      have hK8 := (keeps_below z8).same D' _ hK rfl
      have c98 : W8.cell? ⟨b9, 0, none⟩ = some (.slice (some ⟨ub, 0, none⟩) n n) := b98.cell 0
      have ho0 : Own W8 W.heap.size 2 1 (some ⟨W.heap.size, 0, none⟩) (trueTo bs 0).length 0 (ints (trueTo bs 0)) := i2_lit0 t8 (Nat.le_refl _)
      go_wp2_with fail
      rw [← HW8.out]
      clear HW8 c9 c98
      go_loopw [12, 44] (fun v j wr => ∃ (j' : Nat) (D : Option Addr) (cd : Nat), j' ≤ n ∧ j = .int .i64 (j' : Int) ∧ v = .slice D (trueTo bs j').length cd ∧ Own wr W.heap.size 2 1 D (trueTo bs j').length cd (ints (trueTo bs j')) ∧ Below W.heap.size W wr) (fun _ j _ => n - (intOf j).toNat)
      case atStart => exact ⟨0, _, 0, Nat.zero_le _, rfl, by simp [trueTo], ho0, z8⟩
      case round =>
        obtain ⟨j, D, cd, hj, rfl, rfl, ho, hzr⟩ := hrel
        clear ho0 y8 z8 t8 hb8 b18 b28 b98 hK8
        have hfl := trueTo_len bs j
        by_cases hlt : j < n
        · obtain ⟨x, bb, off, HT, hab, hbl, e0⟩ := SB.pick (bs := bs) (hu.below hzr).rd hlt
          simp only [Option.some.injEq, Addr.mk.injEq, and_true] at hab
          obtain ⟨rfl, rfl⟩ := hab
          simp only [Nat.zero_add] at e0
          cases x with
          | true =>
            have HNX := Lib.hid (trueTo_yes HT.out)
            go_wp2_with (at_builtin; refine wpList_append_Own rfl (.tmp 50) (.tmp 52) rfl elI (lo := W.heap.size) rfl (ho.alloc _) rfl (Rd.new1 _ _ _) (by simp [Value.oneCell']) (by omega) (by simp only [maxLen]; omega) (by have := hzr.size; simp; omega) ?_; intro A9 c9 w9 ho9 hg9 hw9)
            have hz9 : Below W.heap.size W w9 := Own.below_of (ho.alloc _) (hzr.alloc hzr.size _) hg9 (by have := hzr.size; simp; omega)
            rw [ints_snoc, ← HNX.out] at ho9
            have HLEN : Hid ((trueTo bs j).length + 1 = (trueTo bs (j + 1)).length) := Lib.hid (by rw [HNX.out]; simp)
            go_wp2_with fail
            go_roundw
            case rel => exact ⟨j + 1, A9, c9, by omega, by go_num, by rw [← HLEN.out], by rw [← HLEN.out]; exact ho9, hz9⟩
            case measure => simp [intOf]; omega
          | false =>
            have HNX := Lib.hid (trueTo_no HT.out)
            go_wp2_with fail
            go_roundw
            case rel => exact ⟨j + 1, D, cd, by omega, by go_num, by rw [HNX.out], by rw [HNX.out]; exact ho, hzr⟩
            case measure => simp [intOf]; omega
        · have HE2 : Hid (trueTo bs j = trueF bs) := Lib.hid (by unfold trueF; rw [HBL.out]; congr 1; omega)
          have b1r := b1.below' hzr
          have b2r := b2.below' hzr
          have hKr := (keeps_below hzr).same D' _ hK rfl
          have hzw := hz.trans (hzr.mono hz.size)
          have r1 : wr.cell? ⟨w.heap.size + 1 + 1 + 1, 0, none⟩ = some (.slice none 0 0) := b1r.cell 0
          have r2 : wr.cell? ⟨w.heap.size + 1 + 1 + 1 + 1, 0, none⟩ = some (.int .i64 0) := b2r.cell 0
          have f1 := b1r.frozen 0
          have f2 := b2r.frozen 0
          have hb1 := b1.lt
          have hb2 := b2.lt
          go_wp2_with fail
          have d1 := (b1r.set_ 0 (.slice D (trueTo bs j).length cd)).far (p := ⟨w.heap.size + 1 + 1 + 1 + 1, 0, none⟩) (show w.heap.size + 1 + 1 + 1 ≠ w.heap.size + 1 + 1 + 1 + 1 by omega) (.int .i64 0)
          have d2 := (b2r.far (p := ⟨w.heap.size + 1 + 1 + 1, 0, none⟩) (show w.heap.size + 1 + 1 + 1 + 1 ≠ w.heap.size + 1 + 1 + 1 by omega) (.slice D (trueTo bs j).length cd)).set_ 0 (.int .i64 0)
          have do_ := ((ho.far (p := ⟨w.heap.size + 1 + 1 + 1, 0, none⟩) (fun e => by have h9 : W.heap.size ≤ w.heap.size + 1 + 1 + 1 := ho.blk_ge _ e; omega) (.slice D (trueTo bs j).length cd)).far (p := ⟨w.heap.size + 1 + 1 + 1 + 1, 0, none⟩) (fun e => by have h9 : W.heap.size ≤ w.heap.size + 1 + 1 + 1 + 1 := ho.blk_ge _ e; omega) (.int .i64 0)).mono hz.size
          have dz := (hzw.setCell (p := ⟨w.heap.size + 1 + 1 + 1, 0, none⟩) (show w.heap.size ≤ w.heap.size + 1 + 1 + 1 by omega) (.slice D (trueTo bs j).length cd)).setCell (p := ⟨w.heap.size + 1 + 1 + 1 + 1, 0, none⟩) (show w.heap.size ≤ w.heap.size + 1 + 1 + 1 + 1 by omega) (.int .i64 0)
          have hK7 := ((KeepsOthers.setCell wr ⟨w.heap.size + 1 + 1 + 1, 0, none⟩ (.slice D (trueTo bs j).length cd)).trans (KeepsOthers.setCell _ ⟨w.heap.size + 1 + 1 + 1 + 1, 0, none⟩ (.int .i64 0))).same D' _ hKr rfl
          generalize (wr.setCell ⟨w.heap.size + 1 + 1 + 1, 0, none⟩ (.slice D (trueTo bs j).length cd)).setCell ⟨w.heap.size + 1 + 1 + 1 + 1, 0, none⟩ (.int .i64 0) = Wf at *
          have k1 : (Wf.putObj D' (.deferred none)).cell? ⟨w.heap.size + 1 + 1 + 1, 0, none⟩ = some (.slice D (trueTo bs j).length cd) := (d1.put (.deferred none) hK7 rfl).cell 0
          have k2 : (Wf.putObj D' (.deferred none)).cell? ⟨w.heap.size + 1 + 1 + 1 + 1, 0, none⟩ = some (.int .i64 0) := (d2.put (.deferred none) hK7 rfl).cell 0
          refine ⟨by simp, .inl ⟨_, _, rfl, run_takeDeferred hK7, ?_⟩⟩
          exact ⟨.tuple #[.slice D (trueTo bs j).length cd, .int .i64 0], by simp [results, Try.results88, go_sem, k1, k2], i2_of HE.out (by rw [HE2.out]) (by rw [← HE2.out]; exact do_.put (.deferred none) hK7 rfl) (below_put dz (by have := z06.size; omega) _ hK7)⟩
    case stop =>
      rintro D' c' W hD' ⟨x, rfl, ⟨j, hfull⟩, hz, b1, b2⟩ hK
      obtain ⟨e1, e2, e3, e4⟩ := HPS.out
      rw [e1, e2, e3, e4] at hfull
      have HE := Lib.hid (usedRulesF_full hg H1.out hfull)
      clear hfull e1 e2 e3 e4
      refine wpIn_wide.2 ?_
      go_wp2_with fail
      have k1 : (W.putObj D' (.deferred none)).cell? ⟨w.heap.size + 1 + 1 + 1, 0, none⟩ = some (.slice none 0 0) := (b1.put (.deferred none) hK rfl).cell 0
      have k2 : (W.putObj D' (.deferred none)).cell? ⟨w.heap.size + 1 + 1 + 1 + 1, 0, none⟩ = some (.int .i64 5) := (b2.put (.deferred none) hK rfl).cell 0
      refine ⟨by simp, .inl ⟨_, _, rfl, run_takeDeferred hK, ?_⟩⟩
      rw [HPW.out] at hz
      exact ⟨.tuple #[.slice none 0 0, .int .i64 5], by simp [results, Try.results88, go_sem, k1, k2], i2_nil HE.out (below_put hz (by have := z06.size; omega) _ hK)⟩
end Go.Proofs.Ytbedghebckflmaa
