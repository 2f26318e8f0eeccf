/-
  Contract of impl.CollatzNumbers.
-/
import Derived.Test.YthipbeggaeogcaaCollR
import Derived.Test.YthipbeggaeogcaaCollV
import Derived.Test.YthipbeggaeogcaaCollL
import Derived.Test.YthipbeggaeogcaaNewI
namespace Go.Proofs.Ythipbeggaeogcaa
open Go.RowKit

/-- make([]T, n) as an operation of a region. -/
theorem wp_make_OwnC {P : Program} {t e : TypeId} {s bytes : Nat} {z : Value} {o : Oper} {a : Act} {K : Act → World → Prop} {Q : Exit → Act → World → Prop} (l c : Operand) (ho : o.op = Op.makeSlice t l c)
    (E : Elem P t e s bytes z) {w : World} {kl kc : IntKind} {n : Nat} (hl : a.eval l = .int kl (n : Int)) (hc : a.eval c = .int kc (n : Int)) (hb : bytes * n ≤ 281474976710656) (hm : n ≤ maxLen) {lo : Nat} (hlo : lo ≤ w.heap.size)
    (hK : ∀ ub w2, ub = w.heap.size → Own w2 lo e s (some ⟨ub, 0, none⟩) n n (madeCells z.cells (n * s)).toList → Below w.heap.size w w2 → K (a.put o.dst (.slice (some ⟨ub, 0, none⟩) n n)) w2) : o.wp P a w K Q := by
  obtain ⟨w2, hrun, r1, r2, r3⟩ := run_make_Own E w kl kc hb hm hlo
  unfold Oper.wp
  simp [execOp, ho, hl, hc, hrun, Oper.upon]
  exact hK _ w2 rfl r1 r2

/-- What the caller's own blocks hold ahead of round i. -/
def coD (lw lo ex m i : Nat) (X : Nat → Prop) (W : World) : Prop :=
  X ex ∧ ∃ A a vs, Hid (zlens collSys (zeros m) i = vs) ∧ Blk W ex 25 #[.slice A vs.length a] ∧ Own W lw 2 1 A vs.length a (ints vs) ∧ ∀ b, blk A = some b → X b ∧ (b ≤ ex ∨ lo ≤ b)
theorem coD_fr (lw lo ex m i : Nat) : FrD (coD lw lo ex m i) := by
  rintro X W W' ⟨x9, A, a, vs, hv, h9, ho, hX⟩ hf
  exact ⟨x9, A, a, vs, hv, h9.fr hf x9, ho.fr hf (fun b hb => (hX b hb).1), hX⟩

def CollRan (w : World) (m N : Nat) (e : Ending) (w' : World) : Prop :=
  ∃ (k0 : Int) (h : Bool) (k2 : Int), e = .returned (.tuple #[.int .i64 k0, .bool h, .int .i64 k2]) ∧ Below w.heap.size w w' ∧
    ((k2 = 0 ∧ ∃ A a vs, Blk w' (w.heap.size + 1) 25 #[.slice A vs.length a] ∧ Own w' w.heap.size 2 1 A vs.length a (ints vs) ∧ Hid (collF (m : Int) (N : Int) = if h = true then (vs, 0) else ([], 5))) ∨ (k2 = 5 ∧ h = false ∧ Hid (collF (m : Int) (N : Int) = ([], 5))))

set_option maxHeartbeats 1000000 in
theorem collRun (w Wc w4 : World) (g : Nat) (A : Option Addr) (ts : List Sl) (B : Option Addr) (k m N : Nat) (Q : Option Addr) (r : Nat) (h1 : inB (m : Int) 1 1000 = true) (h2 : inB (N : Int) 1 20000 = true)
    (hw : Below w.heap.size w Wc) (hO : OII Wc (w.heap.size + 1 + 1) 25 2 A 3 3 ts) (hn : nums ts = collWords) (e1 : Blk Wc w.heap.size 2 #[]) (e2 : Blk Wc (w.heap.size + 1) 25 #[.slice (some ⟨w.heap.size, 0, none⟩) 0 0])
    (hg : Wc.heap.size ≤ g) (hr : RunAt w4 g 2 A 3 3 B 0 k Q m r) (ho : Own w4 Wc.heap.size 2 1 Q m r (ints (zeros m))) (hb : Below Wc.heap.size Wc w4) :
    Calls Try.prog 79 #[.iface 131 (.pointer (some ⟨g, 0, none⟩)), .int .i64 (N : Int), .func (.func 102) #[] #[.pointer (some ⟨w.heap.size + 1, 0, none⟩)]] w4 (CollRan w m N) := by
  have hm := (inB_iff _ _ _).1 h1
  have hN := (inB_iff _ _ _).1 h2
  have e1l := e1.lt
  have e2l := e2.lt
  have e14 := e1.below' hb
  have e24 := e2.below' hb
  have hb4 := hb.size
  have hok : (CoP Wc g A 3 ts B k m).Ok := ⟨by show tagCodeF 2 (nums ts) [] (zeros m) = 0; rw [hn]; exact coll_code h1, hO.sii, SI.nil, hg, by show 3 ≤ _; omega, by show 0 ≤ _; omega⟩
  have hgood : ∀ i, collSys.Alive (zeros m) i → (collSys.it (zeros m) i).length ≤ 1000 := fun i hi => by
    have h3 : tagCodeF 2 collWords [] (collSys.it (zeros m) i) = 0 := tagAlive_good (coll_code h1) hi
    exact (tagCode_parts h3).2.2.2.1
  have h0 : CoS w Wc.heap.size (w.heap.size + 1) g A 3 ts B k m 0 (coD w.heap.size Wc.heap.size (w.heap.size + 1) m 0) w4 := by
    have hl : (collSys.it (zeros m) 0).length = m := zeros_len m
    refine ⟨_, Q, r, fun b => b = w.heap.size ∨ b = w.heap.size + 1, rfl, ⟨Wc, rfl, hw, hok, hO, hn, ?_, ?_, ?_, ?_, ?_, hb⟩, .inr rfl, some ⟨w.heap.size, 0, none⟩, 0, [], Lib.hid rfl, e24, i2_lit0 e14 (Nat.le_refl _), ?_⟩
    · show ¬ (g = w.heap.size ∨ g = w.heap.size + 1); omega
    · rintro b (h | h) <;> omega
    · show RunAt w4 g 2 A 3 3 B 0 k Q (zeros m).length r; rw [zeros_len]; exact hr
    · show Own w4 Wc.heap.size 2 1 Q (zeros m).length r (ints (zeros m)); rw [zeros_len]; exact ho
    · intro b hb' h
      have h9 := ho.blk_ge b hb'
      rcases h with h | h <;> omega
    · intro b hb'
      simp [blk] at hb'
      exact ⟨.inl hb'.symm, .inl (by omega)⟩
  have hvis : ∀ i u W, i ≤ N → collSys.Alive (zeros m) i → CoV w Wc.heap.size (w.heap.size + 1) g A 3 ts B k m i (coD w.heap.size Wc.heap.size (w.heap.size + 1) m i) u W → Calls Try.prog 102 (#[u] ++ #[.pointer (some ⟨w.heap.size + 1, 0, none⟩)]) W fun e W' => e = .returned (.bool true) ∧ CoS w Wc.heap.size (w.heap.size + 1) g A 3 ts B k m i (coD w.heap.size Wc.heap.size (w.heap.size + 1) m (i + 1)) W' := by
    rintro i u W hiN hal ⟨Q', r', X, rfl, hC, x9, A', a', vs, hv, h9, hoA, hX⟩
    have hlen := hgood i hal
    have hvi : vs.length ≤ i := by rw [← hv.out]; exact zlens_le _ _ _
    have hsi : SI W Q' (collSys.it (zeros m) i).length (collSys.it (zeros m) i) := by
      obtain ⟨w0, q1, q2, q3, q4, q5, q6⟩ := hC
      have hit : (CoP w0 g A 3 ts B k m).it i = collSys.it (zeros m) i := by show (tagSys 2 (nums ts) []).it (zeros m) i = _; rw [q5]; rfl
      have := q6.own.rd
      rwa [hit] at this
    have hWz : w.heap.size ≤ W.heap.size ∧ Wc.heap.size ≤ W.heap.size := by
      obtain ⟨w0, q1, q2, q3, q4, q5, q6⟩ := hC
      have h3 := q6.low.size
      have h4 := q2.size
      have h5 : w0.heap.size ≤ W.heap.size := h3
      omega
    refine (collVisit_any Q' r' (w.heap.size + 1) w.heap.size a' A' vs (collSys.it (zeros m) i) W h9 hoA hsi (by omega) (by omega) hWz.1).mono ?_
    rintro e W' ⟨A8, a8, us, he, hus, hb8, ho8, hK, hA8⟩
    refine ⟨he, _, Q', r', _, rfl, hC.turn hK ?_, .inl x9, A8, a8, us, Lib.hid ?_, hb8, ho8, ?_⟩
    · rintro b (hb' | hb')
      · subst hb'; exact ⟨x9, by omega, .inl (Nat.le_refl _)⟩
      · exact ⟨(hX b hb').1, hoA.blk_ge b hb', (hX b hb').2⟩
    · rw [hus]
      cases hz : zeroB (collSys.it (zeros m) i) with
      | true => rw [zlens_yes hz, hv.out]; rfl
      | false => rw [zlens_no hz, hv.out]; rfl
    · intro b hb'
      rcases hA8 b hb' with h | h
      · exact ⟨.inl (hX b h).1, (hX b h).2⟩
      · exact ⟨.inr ⟨h, ho8.blk_lt b hb'⟩, .inr (by omega)⟩
  refine (runColl w Wc.heap.size (w.heap.size + 1) g A 3 ts B k m N 102 #[.pointer (some ⟨w.heap.size + 1, 0, none⟩)] (fun _ => true) (coD w.heap.size Wc.heap.size (w.heap.size + 1) m) (coD_fr _ _ _ _) w4 (by omega) Try.call102 hvis h0).mono ?_
  rintro e w5 (⟨i, hi, hal, _, hend, rfl, ⟨u, Q4, r4, X, _, ⟨w0, q1, q2, q3, q4, q5, q6⟩, _, A', a', vs, hv, h9, hoA, _⟩⟩ | ⟨i, hi, hal, _, hh, hro, rfl, hF⟩)
  · have hen : collSys.Ended (zeros m) N i := by
      refine ⟨hi, hal, ?_⟩
      rcases hend with h | h | h
      · cases h
      · exact .inl h
      · exact .inr h
    refine ⟨_, _, _, rfl, q2.trans (Below.mono q6.low q2.size), .inl ⟨rfl, A', a', vs, h9, hoA, Lib.hid ?_⟩⟩
    cases hh : collSys.halt (collSys.it (zeros m) i) with
    | true => rw [if_pos rfl, collF_halt h1 h2 hen hh, hv.out]
    | false => rw [if_neg (by simp), collF_runs h1 h2 hen hh]
  · exact ⟨_, _, _, rfl, hF, .inr ⟨rfl, rfl, Lib.hid (collF_full h1 h2 ⟨hi, hal, hh, hro⟩)⟩⟩

set_option maxRecDepth 100000 in
set_option maxHeartbeats 4000000 in
theorem collNumbersI_any (n b : Int) (w : World) : Calls Try.prog 42 #[.int .i64 n, .int .i64 b] w (NewI2 w (collF n b)) := by
  cases a1 : inB n 1 1000
  · have HF := Lib.hid (collF_n (b := b) a1)
    have A1 := Lib.hid a1
    clear a1
    go_enter Try.func42, Try.ntmps42
    go_wp2_with (go_at_call 85; refine (within_is A1.out _).mono ?_; rintro e w' ⟨rfl, rfl⟩)
    exact bodyPost_ret (v := .tuple #[.slice none 0 0, .int .i64 2]) (by simp [results, Try.results42, go_sem]) rfl (i2_nil HF.out (Below.refl _ _))
  cases a2 : inB b 1 20000
  · have HF := Lib.hid (collF_b (n := n) a2)
    have A1 := Lib.hid a1
    have A2 := Lib.hid a2
    clear a1 a2
    go_enter Try.func42, Try.ntmps42
    go_wp2_with (first | (go_at_call 85; refine (within_is A1.out _).mono ?_; rintro e w' ⟨rfl, rfl⟩) | (go_at_call 77; refine (budgetOk_is A2.out _).mono ?_; rintro e w' ⟨rfl, rfl⟩))
    exact bodyPost_ret (v := .tuple #[.slice none 0 0, .int .i64 2]) (by simp [results, Try.results42, go_sem]) rfl (i2_nil HF.out (Below.refl _ _))
  have hn := (inB_iff _ _ _).1 a1
  have hb := (inB_iff _ _ _).1 a2
  obtain ⟨m, rfl⟩ : ∃ m : Nat, n = (m : Int) := ⟨n.toNat, by omega⟩
  obtain ⟨N, rfl⟩ : ∃ N : Nat, b = (N : Int) := ⟨b.toNat, by omega⟩
  have A1 := Lib.hid a1
  have A2 := Lib.hid a2
  clear a1 a2
  obtain ⟨w3, hW_⟩ : ∃ W, W = (w.alloc (.cells #[] 2)).alloc (.cells #[.slice (some ⟨w.heap.size, 0, none⟩) 0 0] 25) := ⟨_, rfl⟩
  have s_1 : (w.alloc (.cells #[] 2)).heap.size = w.heap.size + 1 := by simp
  have e1 : Blk w3 w.heap.size 2 #[] := by rw [hW_]; exact (Blk.new w _ _).alloc _
  have e2 : Blk w3 (w.heap.size + 1) 25 #[.slice (some ⟨w.heap.size, 0, none⟩) 0 0] := by rw [hW_, ← s_1]; exact Blk.new _ _ _
  have y3 : Below w.heap.size w w3 := by rw [hW_]; exact ((Below.refl _ _).alloc (Nat.le_refl _) _).alloc (by simp) _
  have Hw3 := Lib.hid hW_
  clear hW_ s_1
  have hs3 : w3.heap.size = w.heap.size + 1 + 1 := by rw [Hw3.out]; simp
  go_enter Try.func42, Try.ntmps42
  go_wp2_with (first | (go_at_call 85; refine (within_is A1.out _).mono ?_; rintro e w' ⟨rfl, rfl⟩) | (go_at_call 77; refine (budgetOk_is A2.out _).mono ?_; rintro e w' ⟨rfl, rfl⟩))
  rw [← Hw3.out]
  have hz : Below w3.heap.size w3 w3.drew := below_drewN (Below.refl _ _) 1
  have HE1 := Lib.hid e1
  have HE2 := Lib.hid e2
  clear e1 e2
  refine wp_region_any (by kernel_rfl) ?_
  try (change wpAny _ _ _ _ _ _ _ (World.drew _))
  refine wpAny_take (i := 1) (v := ?_) rfl (by kernel_rfl) (by kernel_rfl) (by kernel_rfl) (fun _ _ _ h => h) (Or.inl ⟨by rfl, ?_⟩) ?_
  rotate_left
  · intro w
    go_simp
    try with_reducible rfl
  try simp only [Act.put, List.setIfInBounds_toArray, List.set_cons_zero, List.set_cons_succ]
  refine wpAny_take (i := 5) (v := ?_) rfl (by kernel_rfl) (by kernel_rfl) (by kernel_rfl) (fun _ _ _ h => h) (Or.inl ⟨by rfl, ?_⟩) ?_
  rotate_left
  · intro w
    go_simp
    try with_reducible rfl
  try simp only [Act.put, List.setIfInBounds_toArray, List.set_cons_zero, List.set_cons_succ]
  refine wpAny_take (i := 6) (v := ?_) rfl (by kernel_rfl) (by kernel_rfl) (by kernel_rfl) (fun _ _ _ h => h) (Or.inl ⟨by rfl, ?_⟩) ?_
  rotate_left
  · intro w
    go_simp
    try with_reducible rfl
  try simp only [Act.put, List.setIfInBounds_toArray, List.set_cons_zero, List.set_cons_succ]
  refine wpAny_ready (rs := [0, 2]) (by kernel_rfl) (by simp) ?_
  refine AllReady.cons rfl (fun K hK => ?_) ?_
  · go_simp
    refine (collTagI_any _).mono ?_
    rintro e Wc ⟨A, B, k, ts, rfl, hO', hN, z⟩
    have hO := hO'.mono hz.size
    try replace hu := hu.below z
    replace hz := hz.trans (z.mono hz.size)
    clear hO' z
    refine hK _ _ ?_
    clear hK K
    try simp only [Act.put, List.setIfInBounds_toArray, List.set_cons_zero, List.set_cons_succ]
    refine wpAny_ready (rs := [2]) (by kernel_rfl) (by simp) ?_
    refine AllReady.cons rfl (fun K hK => ?_) ?_
    · try rw [if_pos (by rfl)]
      refine wp_make_OwnC (.tmp 21) (.tmp 21) rfl elI (n := m) (lo := w3.heap.size) rfl rfl (by omega) (by simp only [maxLen]; omega) hz.size ?_
      intro ub Wc hub hu z
      clear hub
      rw [made_zeros] at hu
      try replace hO := hO.below z
      replace hz := hz.trans (z.mono hz.size)
      clear z
      refine hK _ _ ?_
      clear hK K
      try simp only [Act.put, List.setIfInBounds_toArray, List.set_cons_zero, List.set_cons_succ]
      refine wpAny_ready (rs := [3]) (by kernel_rfl) (by simp) ?_
      refine AllReady.cons rfl (fun K hK => ?_) ?_
      · go_simp
        refine (tagRunOf_any _ _ _ _ _ _ _ _ _ _ (zeros m) _ hu.rd (by omega)).mono ?_
        rintro e w4 ⟨g, Q, r3, rfl, hg3, hr3, ho3, hb3⟩
        rw [zeros_len] at hr3 ho3
        refine hK _ _ ?_
        clear hK K
        try simp only [Act.put, List.setIfInBounds_toArray, List.set_cons_zero, List.set_cons_succ]
        refine wpAny_take (i := 4) (v := ?_) rfl (by kernel_rfl) (by kernel_rfl) (by kernel_rfl) (fun _ _ _ h => h) (Or.inl ⟨by rfl, ?_⟩) ?_
        rotate_left
        · intro w
          go_simp
          try with_reducible rfl
        try simp only [Act.put, List.setIfInBounds_toArray, List.set_cons_zero, List.set_cons_succ]
        refine wpAny_ready (rs := [7]) (by kernel_rfl) (by simp) ?_
        refine AllReady.cons rfl (fun K hK => ?_) ?_
        · go_simp
          refine (collRun w _ _ g A ts B k m N Q r3 A1.out A2.out (y3.trans (hz.mono y3.size)) (by rw [← hs3]; exact hO) hN (HE1.out.below' hz) (HE2.out.below' hz) hg3 hr3 ho3 hb3).mono ?_
          rintro e w5 ⟨k0, h, k2, rfl, hlow, hcase⟩
          refine hK _ _ ?_
          clear hK K
          try simp only [Act.put, List.setIfInBounds_toArray, List.set_cons_zero, List.set_cons_succ]
          refine wpAny_take (i := 8) (v := ?_) rfl (by kernel_rfl) (by kernel_rfl) (by kernel_rfl) (fun _ _ _ h => h) (Or.inl ⟨by rfl, ?_⟩) ?_
          rotate_left
          · intro w
            go_simp
            try with_reducible rfl
          try simp only [Act.put, List.setIfInBounds_toArray, List.set_cons_zero, List.set_cons_succ]
          refine wpAny_take (i := 9) (v := ?_) rfl (by kernel_rfl) (by kernel_rfl) (by kernel_rfl) (fun _ _ _ h => h) (Or.inl ⟨by rfl, ?_⟩) ?_
          rotate_left
          · intro w
            go_simp
            try with_reducible rfl
          try simp only [Act.put, List.setIfInBounds_toArray, List.set_cons_zero, List.set_cons_succ]
          refine wpAny_take (i := 10) (v := ?_) rfl (by kernel_rfl) (by kernel_rfl) (by kernel_rfl) (fun _ _ _ h => h) (Or.inl ⟨by rfl, ?_⟩) ?_
          rotate_left
          · intro w
            go_simp
            try with_reducible rfl
          try simp only [Act.put, List.setIfInBounds_toArray, List.set_cons_zero, List.set_cons_succ]
          refine wpAny_take (i := 11) (v := ?_) rfl (by kernel_rfl) (by kernel_rfl) (by kernel_rfl) (fun _ _ _ h => h) (Or.inl ⟨by rfl, ?_⟩) ?_
          rotate_left
          · intro w
            go_simp
            try with_reducible rfl
          try simp only [Act.put, List.setIfInBounds_toArray, List.set_cons_zero, List.set_cons_succ]
          refine wpAny_take (i := 12) (v := ?_) rfl (by kernel_rfl) (by kernel_rfl) (by kernel_rfl) (fun _ _ _ h => h) (Or.inl ⟨by rfl, ?_⟩) ?_
          rotate_left
          · intro w
            go_simp
            try with_reducible rfl
          try simp only [Act.put, List.setIfInBounds_toArray, List.set_cons_zero, List.set_cons_succ]
          refine wpAny_take (i := 13) (v := ?_) rfl (by kernel_rfl) (by kernel_rfl) (by kernel_rfl) (fun _ _ _ h => h) (Or.inl ⟨by rfl, ?_⟩) ?_
          rotate_left
          · intro w
            go_simp
            try with_reducible rfl
          try simp only [Act.put, List.setIfInBounds_toArray, List.set_cons_zero, List.set_cons_succ]
          refine wpAny_take (i := 14) (v := ?_) rfl (by kernel_rfl) (by kernel_rfl) (by kernel_rfl) (fun _ _ _ h => h) (Or.inl ⟨by rfl, ?_⟩) ?_
          rotate_left
          · intro w
            go_simp
            try with_reducible rfl
          try simp only [Act.put, List.setIfInBounds_toArray, List.set_cons_zero, List.set_cons_succ]
          refine wpAny_done (by kernel_rfl) ?_ _
          rcases hcase with ⟨rfl, A', a', vs, h9, hoA, HF⟩ | ⟨rfl, rfl, HF⟩
          · have c9 : w5.cell? ⟨w.heap.size + 1, 0, none⟩ = some (.slice A' vs.length a') := h9.cell 0
            cases h with
            | true =>
              go_wp2_with fail
              exact bodyPost_ret (v := .tuple #[.slice A' vs.length a', .int .i64 0]) (by simp [results, Try.results42, go_sem]) rfl (i2_of HF.out rfl hoA hlow)
            | false =>
              go_wp2_with fail
              exact bodyPost_ret (v := .tuple #[.slice none 0 0, .int .i64 5]) (by simp [results, Try.results42, go_sem]) rfl (i2_nil HF.out hlow)
          · go_wp2_with fail
            exact bodyPost_ret (v := .tuple #[.slice none 0 0, .int .i64 5]) (by simp [results, Try.results42, go_sem]) rfl (i2_nil HF.out hlow)
        exact AllReady.nil
      exact AllReady.nil
    exact AllReady.nil
  refine AllReady.cons rfl (fun K hK => ?_) ?_
  · try rw [if_pos (by rfl)]
    refine wp_make_OwnC (.tmp 21) (.tmp 21) rfl elI (n := m) (lo := w3.heap.size) rfl rfl (by omega) (by simp only [maxLen]; omega) hz.size ?_
    intro ub Wc hub hu z
    clear hub
    rw [made_zeros] at hu
    try replace hO := hO.below z
    replace hz := hz.trans (z.mono hz.size)
    clear z
    refine hK _ _ ?_
    clear hK K
    try simp only [Act.put, List.setIfInBounds_toArray, List.set_cons_zero, List.set_cons_succ]
    refine wpAny_ready (rs := [0]) (by kernel_rfl) (by simp) ?_
    refine AllReady.cons rfl (fun K hK => ?_) ?_
    · go_simp
      refine (collTagI_any _).mono ?_
      rintro e Wc ⟨A, B, k, ts, rfl, hO', hN, z⟩
      have hO := hO'.mono hz.size
      try replace hu := hu.below z
      replace hz := hz.trans (z.mono hz.size)
      clear hO' z
      refine hK _ _ ?_
      clear hK K
      try simp only [Act.put, List.setIfInBounds_toArray, List.set_cons_zero, List.set_cons_succ]
      refine wpAny_ready (rs := [3]) (by kernel_rfl) (by simp) ?_
      refine AllReady.cons rfl (fun K hK => ?_) ?_
      · go_simp
        refine (tagRunOf_any _ _ _ _ _ _ _ _ _ _ (zeros m) _ hu.rd (by omega)).mono ?_
        rintro e w4 ⟨g, Q, r3, rfl, hg3, hr3, ho3, hb3⟩
        rw [zeros_len] at hr3 ho3
        refine hK _ _ ?_
        clear hK K
        try simp only [Act.put, List.setIfInBounds_toArray, List.set_cons_zero, List.set_cons_succ]
        refine wpAny_take (i := 4) (v := ?_) rfl (by kernel_rfl) (by kernel_rfl) (by kernel_rfl) (fun _ _ _ h => h) (Or.inl ⟨by rfl, ?_⟩) ?_
        rotate_left
        · intro w
          go_simp
          try with_reducible rfl
        try simp only [Act.put, List.setIfInBounds_toArray, List.set_cons_zero, List.set_cons_succ]
        refine wpAny_ready (rs := [7]) (by kernel_rfl) (by simp) ?_
        refine AllReady.cons rfl (fun K hK => ?_) ?_
        · go_simp
          refine (collRun w _ _ g A ts B k m N Q r3 A1.out A2.out (y3.trans (hz.mono y3.size)) (by rw [← hs3]; exact hO) hN (HE1.out.below' hz) (HE2.out.below' hz) hg3 hr3 ho3 hb3).mono ?_
          rintro e w5 ⟨k0, h, k2, rfl, hlow, hcase⟩
          refine hK _ _ ?_
          clear hK K
          try simp only [Act.put, List.setIfInBounds_toArray, List.set_cons_zero, List.set_cons_succ]
          refine wpAny_take (i := 8) (v := ?_) rfl (by kernel_rfl) (by kernel_rfl) (by kernel_rfl) (fun _ _ _ h => h) (Or.inl ⟨by rfl, ?_⟩) ?_
          rotate_left
          · intro w
            go_simp
            try with_reducible rfl
          try simp only [Act.put, List.setIfInBounds_toArray, List.set_cons_zero, List.set_cons_succ]
          refine wpAny_take (i := 9) (v := ?_) rfl (by kernel_rfl) (by kernel_rfl) (by kernel_rfl) (fun _ _ _ h => h) (Or.inl ⟨by rfl, ?_⟩) ?_
          rotate_left
          · intro w
            go_simp
            try with_reducible rfl
          try simp only [Act.put, List.setIfInBounds_toArray, List.set_cons_zero, List.set_cons_succ]
          refine wpAny_take (i := 10) (v := ?_) rfl (by kernel_rfl) (by kernel_rfl) (by kernel_rfl) (fun _ _ _ h => h) (Or.inl ⟨by rfl, ?_⟩) ?_
          rotate_left
          · intro w
            go_simp
            try with_reducible rfl
          try simp only [Act.put, List.setIfInBounds_toArray, List.set_cons_zero, List.set_cons_succ]
          refine wpAny_take (i := 11) (v := ?_) rfl (by kernel_rfl) (by kernel_rfl) (by kernel_rfl) (fun _ _ _ h => h) (Or.inl ⟨by rfl, ?_⟩) ?_
          rotate_left
          · intro w
            go_simp
            try with_reducible rfl
          try simp only [Act.put, List.setIfInBounds_toArray, List.set_cons_zero, List.set_cons_succ]
          refine wpAny_take (i := 12) (v := ?_) rfl (by kernel_rfl) (by kernel_rfl) (by kernel_rfl) (fun _ _ _ h => h) (Or.inl ⟨by rfl, ?_⟩) ?_
          rotate_left
          · intro w
            go_simp
            try with_reducible rfl
          try simp only [Act.put, List.setIfInBounds_toArray, List.set_cons_zero, List.set_cons_succ]
          refine wpAny_take (i := 13) (v := ?_) rfl (by kernel_rfl) (by kernel_rfl) (by kernel_rfl) (fun _ _ _ h => h) (Or.inl ⟨by rfl, ?_⟩) ?_
          rotate_left
          · intro w
            go_simp
            try with_reducible rfl
          try simp only [Act.put, List.setIfInBounds_toArray, List.set_cons_zero, List.set_cons_succ]
          refine wpAny_take (i := 14) (v := ?_) rfl (by kernel_rfl) (by kernel_rfl) (by kernel_rfl) (fun _ _ _ h => h) (Or.inl ⟨by rfl, ?_⟩) ?_
          rotate_left
          · intro w
            go_simp
            try with_reducible rfl
          try simp only [Act.put, List.setIfInBounds_toArray, List.set_cons_zero, List.set_cons_succ]
          refine wpAny_done (by kernel_rfl) ?_ _
          rcases hcase with ⟨rfl, A', a', vs, h9, hoA, HF⟩ | ⟨rfl, rfl, HF⟩
          · have c9 : w5.cell? ⟨w.heap.size + 1, 0, none⟩ = some (.slice A' vs.length a') := h9.cell 0
            cases h with
            | true =>
              go_wp2_with fail
              exact bodyPost_ret (v := .tuple #[.slice A' vs.length a', .int .i64 0]) (by simp [results, Try.results42, go_sem]) rfl (i2_of HF.out rfl hoA hlow)
            | false =>
              go_wp2_with fail
              exact bodyPost_ret (v := .tuple #[.slice none 0 0, .int .i64 5]) (by simp [results, Try.results42, go_sem]) rfl (i2_nil HF.out hlow)
          · go_wp2_with fail
            exact bodyPost_ret (v := .tuple #[.slice none 0 0, .int .i64 5]) (by simp [results, Try.results42, go_sem]) rfl (i2_nil HF.out hlow)
        exact AllReady.nil
      exact AllReady.nil
    exact AllReady.nil
  exact AllReady.nil
end Go.Proofs.Ythipbeggaeogcaa
