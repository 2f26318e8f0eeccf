/-
  Contracts of impl.validInstr, ValidProgram, storeOf and ValidStore.
-/
import Derived.Test.YtdlojbabnelbdaaPbStartI5
import Derived.Test.YtdlojbabnelbdaaPkRegisterChoices1
import Derived.Test.YtdlojbabnelbdaaPkRegisterChoices3
namespace Go.Proofs.Ytdlojbabnelbdaa
open Go.RowKit

theorem isRegister_any (r : Int) (w : World) : Calls Try.prog 80 #[.int .i64 r] w fun e w' => e = .returned (.bool (inB r 0 23)) ∧ w = w' := by
  go_enter Try.func80, Try.ntmps80
  go_wp2_with (go_at_call 108; refine (within_any _ _ _ _).mono ?_; rintro e w' ⟨rfl, rfl⟩)
  go_ret
  exact ⟨rfl, rfl⟩
theorem isRegister_is {r : Int} {b : Bool} (h : inB r 0 23 = b) (w : World) : Calls Try.prog 80 #[.int .i64 r] w fun e w' => e = .returned (.bool b) ∧ w = w' := h ▸ isRegister_any r w
theorem validInstr_b (n : Int) (r : R4) : validInstrB n r = (inB r.b 0 23 && inB r.c 0 n && ((r.a == 0 && r.d == 0) || (r.a == 1 && inB r.d 0 n))) := by
  rw [Bool.eq_iff_iff, validInstr_iff]
  simp only [Bool.and_eq_true, Bool.or_eq_true, inB_iff, beq_iff_eq]
  constructor
  · rintro ⟨h1, h2, h3, h4, h5⟩
    refine ⟨⟨⟨h1, h2⟩, h3, h4⟩, ?_⟩
    rcases h5 with ⟨h5, h6⟩ | ⟨h5, h6, h7⟩
    · exact .inl ⟨h5, h6⟩
    · exact .inr ⟨h5, h6, h7⟩
  · rintro ⟨⟨⟨h1, h2⟩, h3, h4⟩, h5⟩
    refine ⟨h1, h2, h3, h4, ?_⟩
    rcases h5 with ⟨h5, h6⟩ | ⟨h5, h6, h7⟩
    · exact .inl ⟨h5, h6⟩
    · exact .inr ⟨h5, h6, h7⟩
set_option maxHeartbeats 1000000 in
theorem validInstr_any (r : R4) (n : Int) (w : World) :
    Calls Try.prog 89 #[.agg #[.int .i64 r.a, .int .i64 r.b, .int .i64 r.c, .int .i64 r.d], .int .i64 n] w fun e w' => e = .returned (.bool (validInstrB n r)) ∧ Below w.heap.size w w' := by
  have HB := Lib.hid (validInstr_b n r)
  obtain ⟨W, hW_⟩ : ∃ W, W = w.alloc (.cells #[.int .i64 r.a, .int .i64 r.b, .int .i64 r.c, .int .i64 r.d] 133) := ⟨_, rfl⟩
  have b0 : Blk W w.heap.size 133 #[.int .i64 r.a, .int .i64 r.b, .int .i64 r.c, .int .i64 r.d] := by rw [hW_]; exact Blk.new w _ _
  have y0 : Below w.heap.size w W := by rw [hW_]; exact (Below.refl _ _).alloc (Nat.le_refl _) _
  have HW := Lib.hid hW_
  clear hW_
  have q0 : W.cell? ⟨w.heap.size, 0, none⟩ = some (.int .i64 r.a) := b0.cell 0
  have q1 : W.cell? ⟨w.heap.size, 1, none⟩ = some (.int .i64 r.b) := b0.cell 1
  have q2 : W.cell? ⟨w.heap.size, 2, none⟩ = some (.int .i64 r.c) := b0.cell 2
  have q3 : W.cell? ⟨w.heap.size, 3, none⟩ = some (.int .i64 r.d) := b0.cell 3
  have HY := Lib.hid y0
  clear y0 b0
  cases h1 : inB r.b 0 23
  · have H1 := Lib.hid h1
    clear h1
    go_enter Try.func89, Try.ntmps89
    go_wp2_with fail
    rw [← HW.out]
    go_wp2_with (go_at_call 80; refine (isRegister_is H1.out _).mono ?_; rintro e w' ⟨rfl, rfl⟩)
    go_ret
    exact ⟨ret_bool (by rw [HB.out, H1.out]; rfl), HY.out⟩
  have H1 := Lib.hid h1
  clear h1
  cases h2 : inB r.c 0 n
  · have H2 := Lib.hid h2
    clear h2
    go_enter Try.func89, Try.ntmps89
    go_wp2_with fail
    rw [← HW.out]
    go_wp2_with (first
      | (go_at_call 80; refine (isRegister_is H1.out _).mono ?_; rintro e w' ⟨rfl, rfl⟩)
      | (go_at_call 108; refine (within_is H2.out _).mono ?_; rintro e w' ⟨rfl, rfl⟩))
    go_ret
    exact ⟨ret_bool (by rw [HB.out, H1.out, H2.out]; rfl), HY.out⟩
  have H2 := Lib.hid h2
  clear h2
  by_cases ha : r.a = 0
  · have a0 : (r.a == 0) = true := by simpa using ha
    have a1 : (r.a == 1) = false := by simp; omega
    have HE : Hid (validInstrB n r = (r.d == 0)) := Lib.hid (by rw [HB.out, H1.out, H2.out, a0, a1]; simp)
    clear ha a1
    go_enter Try.func89, Try.ntmps89
    go_wp2_with fail
    rw [← HW.out]
    go_wp2_with (first
      | (go_at_call 80; refine (isRegister_is H1.out _).mono ?_; rintro e w' ⟨rfl, rfl⟩)
      | (go_at_call 108; refine (within_is H2.out _).mono ?_; rintro e w' ⟨rfl, rfl⟩))
    go_ret
    exact ⟨ret_bool HE.out.symm, HY.out⟩
  by_cases ha1 : r.a = 1
  · have a0 : (r.a == 0) = false := by simpa using ha
    have a1 : (r.a == 1) = true := by simpa using ha1
    have HE : Hid (validInstrB n r = inB r.d 0 n) := Lib.hid (by rw [HB.out, H1.out, H2.out, a0, a1]; simp)
    clear ha ha1
    go_enter Try.func89, Try.ntmps89
    go_wp2_with fail
    rw [← HW.out]
    go_wp2_with (first
      | (go_at_call 80; refine (isRegister_is H1.out _).mono ?_; rintro e w' ⟨rfl, rfl⟩)
      | (go_at_call 108; (with_reducible refine (within_any _ _ _ _).mono ?_); rintro e w' ⟨rfl, rfl⟩; try rw [H2.out]))
    go_ret
    exact ⟨ret_bool HE.out.symm, HY.out⟩
  · have a0 : (r.a == 0) = false := by simpa using ha
    have a1 : (r.a == 1) = false := by simpa using ha1
    have HE : Hid (validInstrB n r = false) := Lib.hid (by rw [HB.out, H1.out, H2.out, a0, a1]; simp)
    clear ha ha1
    go_enter Try.func89, Try.ntmps89
    go_wp2_with fail
    rw [← HW.out]
    go_wp2_with (first
      | (go_at_call 80; refine (isRegister_is H1.out _).mono ?_; rintro e w' ⟨rfl, rfl⟩)
      | (go_at_call 108; refine (within_is H2.out _).mono ?_; rintro e w' ⟨rfl, rfl⟩))
    go_ret
    exact ⟨ret_bool HE.out.symm, HY.out⟩
set_option maxHeartbeats 1000000 in
theorem validProg1_any (b1 : Nat) (A : Option Addr) (n c : Nat) (r : R4) (w : World) (hp : w.cell? ⟨b1, 0, none⟩ = some (.slice A n c)) (hb : b1 < w.heap.size) (hn : n ≤ 1000) :
    Calls Try.prog 88 #[.agg #[.int .i64 r.a, .int .i64 r.b, .int .i64 r.c, .int .i64 r.d], .pointer (some ⟨b1, 0, none⟩)] w fun e w' => e = .returned (.bool (!validInstrB n r)) ∧ Below w.heap.size w w' := by
  obtain ⟨W, hW_⟩ : ∃ W, W = w.alloc (.cells #[.int .i64 r.a, .int .i64 r.b, .int .i64 r.c, .int .i64 r.d] 133) := ⟨_, rfl⟩
  have b0 : Blk W w.heap.size 133 #[.int .i64 r.a, .int .i64 r.b, .int .i64 r.c, .int .i64 r.d] := by rw [hW_]; exact Blk.new w _ _
  have y0 : Below w.heap.size w W := by rw [hW_]; exact (Below.refl _ _).alloc (Nat.le_refl _) _
  have HW := Lib.hid hW_
  clear hW_
  have kp : W.drew.cell? ⟨b1, 0, none⟩ = some (.slice A n c) := (y0.cell (p := ⟨b1, 0, none⟩) hb).trans hp
  have z : Below w.heap.size w W.drew := below_drewN y0 1
  have b0' : Blk W.drew w.heap.size 133 #[.int .i64 r.a, .int .i64 r.b, .int .i64 r.c, .int .i64 r.d] := b0
  have q0 : W.drew.cell? ⟨w.heap.size, 0, none⟩ = some (.int .i64 r.a) := b0'.cell 0
  have q1 : W.drew.cell? ⟨w.heap.size, 1, none⟩ = some (.int .i64 r.b) := b0'.cell 1
  have q2 : W.drew.cell? ⟨w.heap.size, 2, none⟩ = some (.int .i64 r.c) := b0'.cell 2
  have q3 : W.drew.cell? ⟨w.heap.size, 3, none⟩ = some (.int .i64 r.d) := b0'.cell 3
  clear y0 b0 b0'
  go_enter Try.func88, Try.ntmps88
  go_upto_region 1 with fail
  rw [← HW.out]
  refine wp_region_any (by kernel_rfl) ?_
  try (change wpAny _ _ _ _ _ _ _ (World.drew _))
  generalize W.drew = Wc at *
  refine wpAny_ready (rs := [0, 1]) (by kernel_rfl) (by simp) ?_
  refine AllReady.cons rfl (fun K hK => ?_) ?_
  · go_simp
    refine hK _ _ ?_
    clear hK K
    try simp only [Act.put, List.setIfInBounds_toArray, List.set_cons_zero, List.set_cons_succ]
    refine wpAny_ready (rs := [1]) (by kernel_rfl) (by simp) ?_
    refine AllReady.cons rfl (fun K hK => ?_) ?_
    · go_simp
      refine hK _ _ ?_
      clear hK K
      try simp only [Act.put, List.setIfInBounds_toArray, List.set_cons_zero, List.set_cons_succ]
      refine wpAny_ready (rs := [2]) (by kernel_rfl) (by simp) ?_
      refine AllReady.cons rfl (fun K hK => ?_) ?_
      · go_simp
        refine (sizeQ_any _ _ _ _ (by omega)).mono ?_
        rintro e w' ⟨rfl, rfl⟩
        refine hK _ _ ?_
        clear hK K
        try simp only [Act.put, List.setIfInBounds_toArray, List.set_cons_zero, List.set_cons_succ]
        refine wpAny_ready (rs := [3]) (by kernel_rfl) (by simp) ?_
        refine AllReady.cons rfl (fun K hK => ?_) ?_
        · go_simp
          refine (validInstr_any r _ _).mono ?_
          rintro e w2 ⟨rfl, z2⟩
          have zf := z.trans (z2.mono z.size)
          refine hK _ _ ?_
          clear hK K
          try simp only [Act.put, List.setIfInBounds_toArray, List.set_cons_zero, List.set_cons_succ]
          refine wpAny_take (i := 4) (v := ?_) rfl (by kernel_rfl) (by kernel_rfl) (by kernel_rfl) (fun _ _ _ h => h) (Or.inl ⟨by rfl, ?_⟩) ?_
          rotate_left
          · intro w
            go_simp
            try with_reducible rfl
          try simp only [Act.put, List.setIfInBounds_toArray]
          refine wpAny_ready (rs := [5]) (by kernel_rfl) (by simp) ?_
          refine AllReady.cons rfl (fun K hK => ?_) ?_
          · go_simp
            refine hK _ _ ?_
            clear hK K
            try simp only [Act.put, List.setIfInBounds_toArray, List.set_cons_zero, List.set_cons_succ]
            refine wpAny_done (by kernel_rfl) ?_ _
            go_wp2_with fail
            go_ret
            exact ⟨rfl, zf⟩
          exact AllReady.nil
        exact AllReady.nil
      exact AllReady.nil
    exact AllReady.nil
  refine AllReady.cons rfl (fun K hK => ?_) ?_
  · go_simp
    refine hK _ _ ?_
    clear hK K
    try simp only [Act.put, List.setIfInBounds_toArray, List.set_cons_zero, List.set_cons_succ]
    refine wpAny_ready (rs := [0, 2]) (by kernel_rfl) (by simp) ?_
    refine AllReady.cons rfl (fun K hK => ?_) ?_
    · go_simp
      refine hK _ _ ?_
      clear hK K
      try simp only [Act.put, List.setIfInBounds_toArray, List.set_cons_zero, List.set_cons_succ]
      refine wpAny_ready (rs := [2]) (by kernel_rfl) (by simp) ?_
      refine AllReady.cons rfl (fun K hK => ?_) ?_
      · go_simp
        refine (sizeQ_any _ _ _ _ (by omega)).mono ?_
        rintro e w' ⟨rfl, rfl⟩
        refine hK _ _ ?_
        clear hK K
        try simp only [Act.put, List.setIfInBounds_toArray, List.set_cons_zero, List.set_cons_succ]
        refine wpAny_ready (rs := [3]) (by kernel_rfl) (by simp) ?_
        refine AllReady.cons rfl (fun K hK => ?_) ?_
        · go_simp
          refine (validInstr_any r _ _).mono ?_
          rintro e w2 ⟨rfl, z2⟩
          have zf := z.trans (z2.mono z.size)
          refine hK _ _ ?_
          clear hK K
          try simp only [Act.put, List.setIfInBounds_toArray, List.set_cons_zero, List.set_cons_succ]
          refine wpAny_take (i := 4) (v := ?_) rfl (by kernel_rfl) (by kernel_rfl) (by kernel_rfl) (fun _ _ _ h => h) (Or.inl ⟨by rfl, ?_⟩) ?_
          rotate_left
          · intro w
            go_simp
            try with_reducible rfl
          try simp only [Act.put, List.setIfInBounds_toArray]
          refine wpAny_ready (rs := [5]) (by kernel_rfl) (by simp) ?_
          refine AllReady.cons rfl (fun K hK => ?_) ?_
          · go_simp
            refine hK _ _ ?_
            clear hK K
            try simp only [Act.put, List.setIfInBounds_toArray, List.set_cons_zero, List.set_cons_succ]
            refine wpAny_done (by kernel_rfl) ?_ _
            go_wp2_with fail
            go_ret
            exact ⟨rfl, zf⟩
          exact AllReady.nil
        exact AllReady.nil
      exact AllReady.nil
    refine AllReady.cons rfl (fun K hK => ?_) ?_
    · go_simp
      refine (sizeQ_any _ _ _ _ (by omega)).mono ?_
      rintro e w' ⟨rfl, rfl⟩
      refine hK _ _ ?_
      clear hK K
      try simp only [Act.put, List.setIfInBounds_toArray, List.set_cons_zero, List.set_cons_succ]
      refine wpAny_ready (rs := [0]) (by kernel_rfl) (by simp) ?_
      refine AllReady.cons rfl (fun K hK => ?_) ?_
      · go_simp
        refine hK _ _ ?_
        clear hK K
        try simp only [Act.put, List.setIfInBounds_toArray, List.set_cons_zero, List.set_cons_succ]
        refine wpAny_ready (rs := [3]) (by kernel_rfl) (by simp) ?_
        refine AllReady.cons rfl (fun K hK => ?_) ?_
        · go_simp
          refine (validInstr_any r _ _).mono ?_
          rintro e w2 ⟨rfl, z2⟩
          have zf := z.trans (z2.mono z.size)
          refine hK _ _ ?_
          clear hK K
          try simp only [Act.put, List.setIfInBounds_toArray, List.set_cons_zero, List.set_cons_succ]
          refine wpAny_take (i := 4) (v := ?_) rfl (by kernel_rfl) (by kernel_rfl) (by kernel_rfl) (fun _ _ _ h => h) (Or.inl ⟨by rfl, ?_⟩) ?_
          rotate_left
          · intro w
            go_simp
            try with_reducible rfl
          try simp only [Act.put, List.setIfInBounds_toArray]
          refine wpAny_ready (rs := [5]) (by kernel_rfl) (by simp) ?_
          refine AllReady.cons rfl (fun K hK => ?_) ?_
          · go_simp
            refine hK _ _ ?_
            clear hK K
            try simp only [Act.put, List.setIfInBounds_toArray, List.set_cons_zero, List.set_cons_succ]
            refine wpAny_done (by kernel_rfl) ?_ _
            go_wp2_with fail
            go_ret
            exact ⟨rfl, zf⟩
          exact AllReady.nil
        exact AllReady.nil
      exact AllReady.nil
    exact AllReady.nil
  exact AllReady.nil
end Go.Proofs.Ytdlojbabnelbdaa

/-
  Contracts of impl.ValidProgram, storeOf, ValidStore and copyStore.
-/
namespace Go.Proofs.Ytdlojbabnelbdaa
open Go.RowKit

def firstQ (p : R4 → Bool) (rs : List R4) : Int := match rs.findIdx? p with | some k => k | none => -1
theorem firstQ_at {p : R4 → Bool} {rs : List R4} {r : R4} {k : Nat} (hT : rs[k]? = some r) (h : p r = true) (he : (rs.take k).any p = false) : (k : Int) = firstQ p rs := by
  unfold firstQ
  obtain ⟨hk, rfl⟩ := List.getElem?_eq_some_iff.1 hT
  have : rs.findIdx? p = some k := by
    rw [List.findIdx?_eq_some_iff_getElem]
    refine ⟨hk, h, fun j hj => ?_⟩
    rw [List.any_eq_false] at he
    have := he (rs[j]'(by omega)) (by rw [List.mem_take_iff_getElem]; exact ⟨j, by omega, rfl⟩)
    simpa using this
  rw [this]
theorem firstQ_none {p : R4 → Bool} {rs : List R4} {k n : Nat} (hk : n ≤ k) (hl : rs.length = n) (he : (rs.take k).any p = false) : -1 = firstQ p rs := by
  unfold firstQ
  rw [List.take_of_length_le (by omega)] at he
  have : rs.findIdx? p = none := by
    rw [List.findIdx?_eq_none_iff]
    intro x hx
    rw [List.any_eq_false] at he
    simpa using he x hx
  rw [this]
theorem firstQ_next {p : R4 → Bool} {rs : List R4} {r : R4} {k : Nat} (hT : rs[k]? = some r) (h : p r = false) (he : (rs.take k).any p = false) : (rs.take (k + 1)).any p = false := by
  obtain ⟨hk, rfl⟩ := List.getElem?_eq_some_iff.1 hT
  rw [List.take_succ_eq_append_getElem hk, List.any_append, he]
  simpa using h
theorem firstQ_ge (p : R4 → Bool) (rs : List R4) : decide (0 ≤ firstQ p rs) = rs.any p := by
  unfold firstQ
  cases h : rs.findIdx? p with
  | some k =>
    obtain ⟨hk, hp, _⟩ := List.findIdx?_eq_some_iff_getElem.1 h
    have : rs.any p = true := List.any_eq_true.2 ⟨_, List.getElem_mem hk, hp⟩
    rw [this]; simp
  | none =>
    have : rs.any p = false := by rw [List.any_eq_false]; intro x hx; simpa using List.findIdx?_eq_none_iff.1 h x hx
    rw [this]; simp
set_option maxHeartbeats 400000 in
theorem indexFuncQ_any (A : Option Addr) (n c : Nat) (rs : List R4) (f : FuncId) (cp : Value) (p : R4 → Bool) (w : World) (hx : S4 w A n rs) (hn : n ≤ 9223372036854775807) (hcall : ∀ (args : Array Value) (w : World), (callFunc f args).run Try.prog w = .ok (.enter f args) w)
    (hf : Hid (∀ r ∈ rs, ∀ w1, Below w.heap.size w w1 → Calls Try.prog f #[.agg #[.int .i64 r.a, .int .i64 r.b, .int .i64 r.c, .int .i64 r.d], cp] w1 fun e w' => e = .returned (.bool (p r)) ∧ Below w1.heap.size w1 w')) :
    Calls Try.prog 177 #[.slice A n c, .func (.func f) #[] #[cp]] w fun e w' => e = .returned (.int .i64 (firstQ p rs)) ∧ Below w.heap.size w w' := by
  go_enter Try.func177, Try.ntmps177
  go_wp2
  go_loopw [8] (fun i wr => ∃ k : Nat, k ≤ n ∧ i = .int .i64 k ∧ Hid ((rs.take k).any p = false) ∧ Below w.heap.size w wr) (fun i _ => n - (intOf i).toNat)
  case atStart => exact ⟨0, by omega, rfl, rfl, Below.refl _ _⟩
  case round =>
    obtain ⟨k, hk, rfl, he, hb⟩ := hrel
    by_cases hlt : k < n
    · obtain ⟨r, b, off, hR, hrm, rfl, hbl, q0, q1, q2, q3⟩ := (hx.below hb).pick hlt
      go_wp2_with fail
      refine (hf.out r hrm _ hb).mono ?_
      rintro e w2 ⟨rfl, z2⟩
      have y2 : Below w.heap.size w w2 := hb.trans (z2.mono hb.size)
      cases hp : p r
      · have HP := Lib.hid hp
        clear hp
        go_wp2_with fail
        exact ⟨⟨k + 1, by omega, by go_num, firstQ_next hR.out HP.out he.out, y2⟩, by simp [intOf]; omega⟩
      · have HP := Lib.hid hp
        clear hp
        go_wp2_with fail
        go_ret
        exact ⟨ret_int (firstQ_at hR.out HP.out he.out), y2⟩
    · go_wp2
      go_ret
      exact ⟨ret_int (firstQ_none (by omega) hx.len he.out), hb⟩
set_option maxHeartbeats 400000 in
theorem containsFuncQ_any (A : Option Addr) (n c : Nat) (rs : List R4) (f : FuncId) (cp : Value) (p : R4 → Bool) (w : World) (hx : S4 w A n rs) (hn : n ≤ 9223372036854775807) (hcall : ∀ (args : Array Value) (w : World), (callFunc f args).run Try.prog w = .ok (.enter f args) w)
    (hf : Hid (∀ r ∈ rs, ∀ w1, Below w.heap.size w w1 → Calls Try.prog f #[.agg #[.int .i64 r.a, .int .i64 r.b, .int .i64 r.c, .int .i64 r.d], cp] w1 fun e w' => e = .returned (.bool (p r)) ∧ Below w1.heap.size w1 w')) :
    Calls Try.prog 87 #[.slice A n c, .func (.func f) #[] #[cp]] w fun e w' => e = .returned (.bool (rs.any p)) ∧ Below w.heap.size w w' := by
  go_enter Try.func87, Try.ntmps87
  go_wp2_with (go_at_call 177; refine (indexFuncQ_any _ _ _ rs _ _ p _ hx hn hcall hf).mono ?_; rintro e w' ⟨rfl, hb⟩)
  go_ret
  exact ⟨ret_bool (firstQ_ge p rs), hb⟩
theorem validProg_any_b (rs : List R4) (h : rs.length ≤ 400) : validProgB rs = !rs.any fun r => !validInstrB rs.length r := by
  unfold validProgB
  rw [decide_eq_true h, Bool.true_and, List.all_eq_not_any_not]
set_option maxHeartbeats 1000000 in
theorem validProg_any (A : Option Addr) (n c : Nat) (rs : List R4) (w : World) (hx : S4 w A n rs) (hn : n ≤ 1048576) :
    Calls Try.prog 18 #[.slice A n c] w fun e w' => e = .returned (.bool (validProgB rs)) ∧ Below w.heap.size w w' := by
  have HL : Hid (rs.length = n) := Lib.hid hx.len
  obtain ⟨W, hW_⟩ : ∃ W_, W_ = w.alloc (.cells #[.slice A n c] 24) := ⟨_, rfl⟩
  have b0 : Blk W w.heap.size 24 #[.slice A n c] := by rw [hW_]; exact Blk.new w _ _
  have y0 : Below w.heap.size w W := by rw [hW_]; exact (Below.refl _ _).alloc (Nat.le_refl _) _
  have HW := Lib.hid hW_
  clear hW_
  have k0 : W.cell? ⟨w.heap.size, 0, none⟩ = some (.slice A n c) := b0.cell 0
  have hlt := b0.lt
  have HX := Lib.hid (hx.below y0)
  have HY := Lib.hid y0
  clear hx y0
  by_cases h4 : n ≤ 400
  · have i1 : (n : Int) ≤ 400 := by omega
    have HC := Lib.hid (containsFuncQ_any A n c rs _ _ (fun r => !validInstrB (rs.length : Int) r) W HX.out (by omega) Try.call88 (Lib.hid (fun r _ w1 z1 => by
      rw [HL.out]
      exact validProg1_any w.heap.size A n c r w1 ((z1.cell (p := ⟨w.heap.size, 0, none⟩) hlt).trans k0) (Nat.lt_of_lt_of_le hlt z1.size) (by omega))))
    have HV : Hid ((!rs.any fun r => !validInstrB (rs.length : Int) r) = validProgB rs) := Lib.hid (validProg_any_b rs (by rw [HL.out]; exact h4)).symm
    generalize (rs.any fun r => !validInstrB (rs.length : Int) r) = v at *
    clear b0
    go_enter Try.func18, Try.ntmps18
    go_upto_region 1 with fail
    rw [← HW.out]
    clear HW
    go_wp2_with (go_at_call 87; refine HC.out.mono ?_; rintro e w2 ⟨rfl, z2⟩)
    go_ret
    exact ⟨ret_bool HV.out, HY.out.trans (z2.mono HY.out.size)⟩
  · have i1 : ¬ (n : Int) ≤ 400 := by omega
    have HV : Hid (false = validProgB rs) := Lib.hid (by unfold validProgB; rw [HL.out, decide_eq_false h4]; rfl)
    clear b0
    go_enter Try.func18, Try.ntmps18
    go_upto_region 1 with fail
    rw [← HW.out]
    clear HW
    go_wp2_with fail
    go_ret
    exact ⟨ret_bool HV.out, HY.out⟩
theorem storeB_b (ps : List R4) (at_ : Int) (xs : List Int) : storeB ps ⟨at_, xs⟩ = (inB at_ 0 (ps.length : Int) && (decide (xs.length = 24) && allIn xs 0 1000000)) := by
  rw [Bool.eq_iff_iff, storeB_iff]
  unfold allIn
  simp only [Bool.and_eq_true, inB_iff, decide_eq_true_eq, List.all_eq_true]
  constructor
  · rintro ⟨h1, h2, h3, h4⟩; exact ⟨⟨h1, h2⟩, h3, h4⟩
  · rintro ⟨⟨h1, h2⟩, h3, h4⟩; exact ⟨h1, h2, h3, h4⟩
set_option maxHeartbeats 2000000 in
theorem storeOf_any (A : Option Addr) (n k : Nat) (ps : List R4) (at_ : Int) (C : Option Addr) (m c : Nat) (xs : List Int) (w : World) (hp : S4 w A n ps) (hx : SI w C m xs) (hn : n ≤ 1048576) (_hm : m ≤ 1048576) :
    Calls Try.prog 178 #[.slice A n k, .agg #[.int .i64 at_, .slice C m c]] w fun e w' => e = .returned (.bool (storeB ps ⟨at_, xs⟩)) ∧ Below w.heap.size w w' := by
  have HB := Lib.hid (storeB_b ps at_ xs)
  have HLP : Hid (ps.length = n) := Lib.hid hp.len
  have HLX : Hid (xs.length = m) := Lib.hid hx.len
  obtain ⟨W, hW_⟩ : ∃ W_, W_ = w.alloc (.cells #[.int .i64 at_, .slice C m c] 33) := ⟨_, rfl⟩
  have b0 : Blk W w.heap.size 33 #[.int .i64 at_, .slice C m c] := by rw [hW_]; exact Blk.new w _ _
  have y0 : Below w.heap.size w W := by rw [hW_]; exact (Below.refl _ _).alloc (Nat.le_refl _) _
  have HW := Lib.hid hW_
  clear hW_
  have q0 : W.cell? ⟨w.heap.size, 0, none⟩ = some (.int .i64 at_) := b0.cell 0
  have q1 : W.cell? ⟨w.heap.size, 1, none⟩ = some (.slice C m c) := b0.cell 1
  have HX := Lib.hid (hx.below y0)
  have HY := Lib.hid y0
  clear hx hp y0 b0
  rw [HLP.out, HLX.out] at HB
  cases h1 : inB at_ 0 (n : Int)
  · have H1 := Lib.hid h1
    clear h1
    go_enter Try.func178, Try.ntmps178
    go_upto_region 1 with fail
    rw [← HW.out]
    clear HW
    go_quiet ((first | (go_at_call 108; exact quiet_left (within_is H1.out _)) | (go_at_call 82; exact quiet_left (sizeQ_any _ _ _ _ (by omega)))))
    go_wp2_with fail
    go_ret
    exact ⟨ret_bool (by rw [HB.out, H1.out]; rfl), below_drewN HY.out _⟩
  have H1 := Lib.hid h1
  clear h1
  by_cases h2 : m = 24
  · have i2 : ((m : Int) == 24) = true := by simp; omega
    have HE : Hid (storeB ps ⟨at_, xs⟩ = allIn xs 0 1000000) := Lib.hid (by rw [HB.out, H1.out, decide_eq_true h2]; rfl)
    have HA := Lib.hid (fun q => allWithin_any C m c xs 0 1000000 (W.drewN q) (HX.out.drewN q) (by omega))
    clear HB h2
    go_enter Try.func178, Try.ntmps178
    go_upto_region 1 with fail
    rw [← HW.out]
    clear HW
    go_quiet ((first | (go_at_call 108; exact quiet_left (within_is H1.out _)) | (go_at_call 82; exact quiet_left (sizeQ_any _ _ _ _ (by omega))) | (go_at_call 86; exact quiet_left (HA.out _))))
    go_wp2_with fail
    go_ret
    exact ⟨ret_bool HE.out.symm, below_drewN HY.out _⟩
  · have i2 : ((m : Int) == 24) = false := by simp; omega
    have HE : Hid (storeB ps ⟨at_, xs⟩ = false) := Lib.hid (by rw [HB.out, H1.out, decide_eq_false h2]; rfl)
    clear HB h2
    go_enter Try.func178, Try.ntmps178
    go_upto_region 1 with fail
    rw [← HW.out]
    clear HW
    go_quiet ((first | (go_at_call 108; exact quiet_left (within_is H1.out _)) | (go_at_call 82; exact quiet_left (sizeQ_any _ _ _ _ (by omega)))))
    go_wp2_with fail
    go_ret
    exact ⟨ret_bool HE.out.symm, below_drewN HY.out _⟩
set_option maxHeartbeats 1000000 in
theorem validStore_any (A : Option Addr) (n k : Nat) (ps : List R4) (at_ : Int) (C : Option Addr) (m c : Nat) (xs : List Int) (w : World) (hp : S4 w A n ps) (hx : SI w C m xs) (hn : n ≤ 1048576) (hm : m ≤ 1048576) :
    Calls Try.prog 90 #[.slice A n k, .agg #[.int .i64 at_, .slice C m c]] w fun e w' => e = .returned (.bool (validProgB ps && storeB ps ⟨at_, xs⟩)) ∧ Below w.heap.size w w' := by
  obtain ⟨W, hW_⟩ : ∃ W_, W_ = w.alloc (.cells #[.int .i64 at_, .slice C m c] 33) := ⟨_, rfl⟩
  have b0 : Blk W w.heap.size 33 #[.int .i64 at_, .slice C m c] := by rw [hW_]; exact Blk.new w _ _
  have y0 : Below w.heap.size w W := by rw [hW_]; exact (Below.refl _ _).alloc (Nat.le_refl _) _
  have HW := Lib.hid hW_
  clear hW_
  have HX := Lib.hid (hx.below y0)
  have HP := Lib.hid (hp.below y0)
  have HY := Lib.hid y0
  have HB := Lib.hid b0
  have HV := Lib.hid (validProg_any A n k ps W HP.out hn)
  clear hx hp y0 b0
  cases hv : validProgB ps
  · rw [hv] at HV
    clear hv
    go_enter Try.func90, Try.ntmps90
    go_upto_region 1 with fail
    rw [← HW.out]
    clear HW
    go_wp2_with (go_at_call 18; refine HV.out.mono ?_; rintro e w2 ⟨rfl, z2⟩)
    go_ret
    exact ⟨rfl, HY.out.trans (z2.mono HY.out.size)⟩
  · rw [hv] at HV
    clear hv
    go_enter Try.func90, Try.ntmps90
    go_upto_region 1 with fail
    rw [← HW.out]
    clear HW
    go_wp2_with (go_at_call 18; refine HV.out.mono ?_; rintro e w2 ⟨rfl, z2⟩; have b2 := HB.out.below' z2; have q0 : w2.cell? ⟨w.heap.size, 0, none⟩ = some (.int .i64 at_) := b2.cell 0; have q1 : w2.cell? ⟨w.heap.size, 1, none⟩ = some (.slice C m c) := b2.cell 1)
    have HS := Lib.hid (storeOf_any A n k ps at_ C m c xs w2 (HP.out.below z2) (HX.out.below z2) hn hm)
    have HZ := Lib.hid (HY.out.trans (z2.mono HY.out.size))
    clear z2 b2
    refine HS.out.mono ?_
    rintro e w3 ⟨rfl, z3⟩
    go_wp2_with fail
    go_ret
    exact ⟨by simp, HZ.out.trans (z3.mono HZ.out.size)⟩
end Go.Proofs.Ytdlojbabnelbdaa

/-
  Contracts of impl.LoopProgram and impl.BranchProgram.
-/
namespace Go.Proofs.Ytdlojbabnelbdaa
open Go.RowKit

theorem valid_small {p : List R4} (h : validProgB p = true) : ∀ x ∈ p, 0 ≤ x.c ∧ x.c ≤ 400 ∧ 0 ≤ x.d ∧ x.d ≤ 400 := fun x hx => (valid_bounds h x hx).2
set_option maxRecDepth 100000 in
set_option maxHeartbeats 4000000 in
theorem loopProgram_any (r : Int) (P : Option Addr) (k : Nat) (p : List R4) (w : World) (hp : S4 w P p.length p) (hv : validProgB p = true) (hr : 0 ≤ r ∧ r ≤ 23) (hl : p.length ≤ 398) :
    Calls Try.prog 15 #[.int .i64 r, .slice P p.length k] w (NewQ2 w (loopP r p)) := by
  have HV := Lib.hid hv
  have HVS := Lib.hid (valid_small hv)
  have hreg : inB r 0 23 = true := (inB_iff _ _ _).2 hr
  have v1 : IntKind.i64.wrap ((p.length : Int) + 2) = (p.length : Int) + 2 := IntWalk.i64_in _ (by omega)
  have HP := Lib.hid hp
  have HVP := Lib.hid (validProg_any P p.length k p w hp (by omega))
  clear hp hv
  go_enter Try.func15, Try.ntmps15
  go_wp2_with fail
  refine HVP.out.mono ?_
  rintro e w1 ⟨rfl, z1⟩
  rw [HV.out]
  have HP1 := Lib.hid (HP.out.below z1)
  have HZ1 := Lib.hid z1
  obtain ⟨V, hVe⟩ : ∃ V, V = w1.alloc (.cells #[.slice none 0 0] 129) := ⟨_, rfl⟩
  have hA : Asm w1 w1.heap.size [] V := by rw [hVe]; exact Asm.start w1
  have HVE := Lib.hid hVe
  have HA := Lib.hid hA
  have HD := Lib.hid (dec_any w1 V w1.heap.size [] r 1 ((p.length : Int) + 2) hA (by simp))
  clear z1 hVe hA HP HVP
  by_cases h0 : p.length = 0
  case' pos =>
    have q0 : ((p.length : Int) == 0) = true := by simp [h0]
    have HF : Hid ((if p.length = 0 then (0 : Int) else 2) = 0) := Lib.hid (if_pos h0)
    clear h0
    go_upto_region 9 with (go_at_call 80; refine (isRegister_is hreg _).mono ?_; rintro e w' ⟨rfl, rfl⟩)
  case' neg =>
    have q0 : ((p.length : Int) == 0) = false := by simp; intro h; subst h; exact h0 rfl
    have HF : Hid ((if p.length = 0 then (0 : Int) else 2) = 2) := Lib.hid (if_neg h0)
    clear h0
    go_upto_region 9 with (go_at_call 80; refine (isRegister_is hreg _).mono ?_; rintro e w' ⟨rfl, rfl⟩)
  all_goals
    rw [← HVE.out]
    clear HVE q0
    go_wp2_with (first
      | (go_at_call 82; refine (sizeQ_any _ _ _ _ (by omega)).mono ?_; rintro e w' ⟨rfl, rfl⟩)
      | (go_at_call 81; refine HD.out.mono ?_; rintro e1 w2 ⟨rfl, hA2⟩; clear HD; have HA2 := Lib.hid hA2; clear hA2))
    refine (inc_any w1 w2 w1.heap.size _ r _ HA2.out (by simp)).mono ?_
    rintro e w3 ⟨rfl, hA3⟩
    have HA3 := Lib.hid hA3
    clear hA3 HA2
    go_wp2_with fail
    refine (part_any w1 w3 w1.heap.size _ P k p 0 HA3.out (HP1.out.below HA3.out.2.1) (by simp) (by omega) HVS.out).mono ?_
    rintro e w4 ⟨rfl, hA4⟩
    obtain ⟨L, hLe⟩ : ∃ L, L = loopP r p := ⟨_, rfl⟩
    have HL : Hid (L = loopP r p) := Lib.hid hLe
    have HA4 : Hid (Asm w1 w1.heap.size L w4) := Lib.hid (by
      have hL2 : loopP r p = [⟨1, r, 1, (p.length : Int) + 2⟩, ⟨0, r, if p.length = 0 then 0 else 2, 0⟩] ++ partP p 2 0 := rfl
      rw [hLe, hL2, HF.out]
      exact hA4)
    have hLL : L.length ≤ 400 := by rw [hLe, loopP_len]; omega
    clear hA4 hLe HA3
    go_wp2_with fail
    refine (done_yes w1 w4 w1.heap.size L HA4.out hLL).mono ?_
    rintro e w5 ⟨⟨A5, c5, rfl, o5⟩, rfl⟩
    have HN : Hid (NewQ2 w (loopP r p) (.returned (.tuple #[.slice A5 L.length c5, .int .i64 0])) w4) := Lib.hid (by
      rw [← HL.out]
      exact ⟨A5, c5, rfl, o5.mono HZ1.out.size, HZ1.out.trans (HA4.out.2.1.mono HZ1.out.size)⟩)
    clear o5
    generalize L.length = N at *
    go_wp2_with fail
    exact bodyPost_ret (v := .tuple #[.slice A5 N c5, .int .i64 0]) (by simp [results, Try.results15, go_sem]) rfl HN.out
set_option maxRecDepth 100000 in
set_option maxHeartbeats 4000000 in
theorem branchProgram_any (r : Int) (P Q : Option Addr) (k l : Nat) (p q : List R4) (w : World) (hp : S4 w P p.length p) (hq : S4 w Q q.length q) (hv : validProgB p = true) (hqv : validProgB q = true) (hr : 0 ≤ r ∧ r ≤ 23) (hl : p.length + q.length ≤ 398) :
    Calls Try.prog 16 #[.int .i64 r, .slice P p.length k, .slice Q q.length l] w (NewQ2 w (branchP r p q)) := by
  have HV := Lib.hid hv
  have HQV := Lib.hid hqv
  have HVS := Lib.hid (valid_small hv)
  have HQS := Lib.hid (valid_small hqv)
  have hreg : inB r 0 23 = true := (inB_iff _ _ _).2 hr
  obtain ⟨F, hF⟩ : ∃ F : Int, F = 2 + (q.length : Int) := ⟨_, rfl⟩
  obtain ⟨E, hE⟩ : ∃ E : Int, E = 2 + (q.length : Int) + (p.length : Int) := ⟨_, rfl⟩
  have v1 : IntKind.i64.wrap (2 + (q.length : Int)) = F := by rw [hF]; exact IntWalk.i64_in _ (by omega)
  have v3 : IntKind.i64.wrap (F + (p.length : Int)) = E := by rw [hE, hF]; exact IntWalk.i64_in _ (by omega)
  have HFE : Hid (F = 2 + (q.length : Int)) := Lib.hid hF
  have HEE : Hid (E = 2 + (q.length : Int) + (p.length : Int)) := Lib.hid hE
  have HP := Lib.hid hp
  have HQ := Lib.hid hq
  have HVP := Lib.hid (validProg_any P p.length k p w hp (by omega))
  clear hp hv hq hqv hF hE
  go_enter Try.func16, Try.ntmps16
  go_wp2_with fail
  refine HVP.out.mono ?_
  rintro e w0 ⟨rfl, z0⟩
  rw [HV.out]
  have HVQ := Lib.hid (validProg_any Q q.length l q w0 (HQ.out.below z0) (by omega))
  have HZ0 := Lib.hid z0
  clear z0
  go_wp2_with fail
  refine HVQ.out.mono ?_
  rintro e w1 ⟨rfl, z1⟩
  rw [HQV.out]
  have HZ1 := Lib.hid (HZ0.out.trans (z1.mono HZ0.out.size))
  have HP1 := Lib.hid (HP.out.below HZ1.out)
  have HQ1 := Lib.hid (HQ.out.below HZ1.out)
  obtain ⟨V, hVe⟩ : ∃ V, V = w1.alloc (.cells #[.slice none 0 0] 129) := ⟨_, rfl⟩
  have hA : Asm w1 w1.heap.size [] V := by rw [hVe]; exact Asm.start w1
  have HVE := Lib.hid hVe
  have HD := Lib.hid (dec_any w1 V w1.heap.size [] r 1 F hA (by simp))
  clear z1 hVe hA HP HQ HVP HVQ HZ0
  by_cases h0 : q.length = 0
  case' pos =>
    have q0 : ((q.length : Int) == 0) = true := by simp [h0]
    have HF : Hid ((if q.length = 0 then E else 2) = E) := Lib.hid (if_pos h0)
    clear h0
    go_upto_region 9 with (first
      | (go_at_call 82; refine (sizeQ_any _ _ _ _ (by omega)).mono ?_; rintro e w' ⟨rfl, rfl⟩)
      | (go_at_call 80; refine (isRegister_is hreg _).mono ?_; rintro e w' ⟨rfl, rfl⟩))
  case' neg =>
    have q0 : ((q.length : Int) == 0) = false := by simp; intro h; subst h; exact h0 rfl
    have HF : Hid ((if q.length = 0 then E else 2) = 2) := Lib.hid (if_neg h0)
    clear h0
    go_upto_region 9 with (first
      | (go_at_call 82; refine (sizeQ_any _ _ _ _ (by omega)).mono ?_; rintro e w' ⟨rfl, rfl⟩)
      | (go_at_call 80; refine (isRegister_is hreg _).mono ?_; rintro e w' ⟨rfl, rfl⟩))
  all_goals
    rw [← HVE.out]
    clear HVE q0
    go_wp2_with (first
      | (go_at_call 82; refine (sizeQ_any _ _ _ _ (by omega)).mono ?_; rintro e w' ⟨rfl, rfl⟩)
      | (go_at_call 81; refine HD.out.mono ?_; rintro e1 w2 ⟨rfl, hA2⟩; clear HD; have HA2 := Lib.hid hA2; clear hA2))
    refine (inc_any w1 w2 w1.heap.size _ r _ HA2.out (by simp)).mono ?_
    rintro e w3 ⟨rfl, hA3⟩
    have HA3 := Lib.hid hA3
    clear hA3 HA2
    go_wp2_with fail
    refine (part_any w1 w3 w1.heap.size _ Q l q E HA3.out (HQ1.out.below HA3.out.2.1) (by simp) (by omega) HQS.out).mono ?_
    rintro e w4 ⟨rfl, hA4⟩
    have HA4 : Hid (Asm w1 w1.heap.size ([⟨1, r, 1, F⟩, ⟨0, r, if q.length = 0 then E else 2, 0⟩] ++ partP q 2 E) w4) := Lib.hid (by rw [HF.out]; exact hA4)
    clear hA4 HA3
    go_wp2_with fail
    refine (part_any w1 w4 w1.heap.size _ P k p E HA4.out (HP1.out.below HA4.out.2.1) (by simp [partP_len]; omega) (by omega) HVS.out).mono ?_
    rintro e w6 ⟨rfl, hA6⟩
    obtain ⟨L, hLe⟩ : ∃ L, L = branchP r p q := ⟨_, rfl⟩
    have HL : Hid (L = branchP r p q) := Lib.hid hLe
    have HA6 : Hid (Asm w1 w1.heap.size L w6) := Lib.hid (by
      have hL2 : branchP r p q = ([⟨1, r, 1, 2 + (q.length : Int)⟩, ⟨0, r, if q.length = 0 then 2 + (q.length : Int) + (p.length : Int) else 2, 0⟩] ++ partP q 2 (2 + (q.length : Int) + (p.length : Int))) ++ partP p (2 + (q.length : Int)) (2 + (q.length : Int) + (p.length : Int)) := rfl
      have e1 : ((([⟨1, r, 1, F⟩, ⟨0, r, if q.length = 0 then E else 2, 0⟩] : List R4) ++ partP q 2 E).length : Int) = F := by
        rw [List.length_append, partP_len, HFE.out]; simp
      rw [e1] at hA6
      rw [hLe, hL2, ← HEE.out, ← HFE.out]
      exact hA6)
    have hLL : L.length ≤ 400 := by rw [hLe, branchP_len]; omega
    clear hA6 hLe HA4
    go_wp2_with fail
    refine (done_yes w1 w6 w1.heap.size L HA6.out hLL).mono ?_
    rintro e w5 ⟨⟨A5, c5, rfl, o5⟩, rfl⟩
    have HN : Hid (NewQ2 w (branchP r p q) (.returned (.tuple #[.slice A5 L.length c5, .int .i64 0])) w6) := Lib.hid (by
      rw [← HL.out]
      exact ⟨A5, c5, rfl, o5.mono HZ1.out.size, HZ1.out.trans (HA6.out.2.1.mono HZ1.out.size)⟩)
    clear o5
    generalize L.length = N at *
    go_wp2_with fail
    exact bodyPost_ret (v := .tuple #[.slice A5 N c5, .int .i64 0]) (by simp [results, Try.results16, go_sem]) rfl HN.out
end Go.Proofs.Ytdlojbabnelbdaa

/-
  Contracts of impl.copyStore and stepStore.
-/
namespace Go.Proofs.Ytdlojbabnelbdaa
open Go.RowKit

/-- A new store. -/
def NewSto (w : World) (at_ : Int) (xs : List Int) (e : Ending) (w' : World) : Prop :=
  ∃ C c, e = .returned (.agg #[.int .i64 at_, .slice C xs.length c]) ∧ Own w' w.heap.size 2 1 C xs.length c (ints xs) ∧ Below w.heap.size w w'
set_option maxRecDepth 100000 in
set_option maxHeartbeats 2000000 in
theorem copyStore_any (at_ : Int) (C : Option Addr) (m c : Nat) (xs : List Int) (w : World) (hx : SI w C m xs) (hm : m ≤ 1048576) :
    Calls Try.prog 92 #[.agg #[.int .i64 at_, .slice C m c]] w (NewSto w at_ xs) := by
  obtain ⟨W, hW_⟩ : ∃ W, W = (w.alloc (.cells #[.int .i64 at_, .slice C m c] 33)).alloc (.cells #[.int .i64 0, .slice none 0 0] 33) := ⟨_, rfl⟩
  have s_1 : (w.alloc (.cells #[.int .i64 at_, .slice C m c] 33)).heap.size = w.heap.size + 1 := by simp
  have b0 : Blk W w.heap.size 33 #[.int .i64 at_, .slice C m c] := by rw [hW_]; exact (Blk.new w _ _).alloc _
  have b1 : Blk W (w.heap.size + 1) 33 #[.int .i64 0, .slice none 0 0] := by rw [hW_, ← s_1]; exact Blk.new _ _ _
  have y0 : Below w.heap.size w W := by rw [hW_]; exact ((Below.refl _ _).alloc (Nat.le_refl _) _).alloc (by simp) _
  have HW := Lib.hid hW_
  clear hW_ s_1
  have hB0 : Blk W.drew w.heap.size 33 #[.int .i64 at_, .slice C m c] := b0
  have hB1 : Blk W.drew (w.heap.size + 1) 33 #[.int .i64 0, .slice none 0 0] := b1
  have hZ : Below w.heap.size w W.drew := below_drewN y0 1
  have HC := Lib.hid (cloneI_any C m c xs W.drew ((hx.below y0).drewN 1) hm)
  have HS : Hid (w.heap.size + 1 + 1 = W.heap.size) := Lib.hid (by rw [HW.out]; simp)
  have hsz : w.heap.size + 1 < W.drew.heap.size := b1.lt
  have q0 : W.drew.cell? ⟨w.heap.size, 0, none⟩ = some (.int .i64 at_) := hB0.cell 0
  have q1 : W.drew.cell? ⟨w.heap.size, 1, none⟩ = some (.slice C m c) := hB0.cell 1
  have f0 := hB1.frozen 0
  have f1 := hB1.frozen 1
  have p0 : W.drew.cell? ⟨w.heap.size + 1, 0, none⟩ = some (.int .i64 0) := hB1.cell 0
  have p1 : W.drew.cell? ⟨w.heap.size + 1, 1, none⟩ = some (.slice none 0 0) := hB1.cell 1
  clear b0 b1 y0 hx
  go_enter Try.func92, Try.ntmps92
  go_upto_region 1 with fail
  rw [← HW.out]
  refine wp_region_any (by kernel_rfl) ?_
  try (change wpAny _ _ _ _ _ _ _ (World.drew _))
  generalize W.drew = Wc at *
  refine wpAny_take (i := 0) (v := ?_) rfl (by kernel_rfl) (by kernel_rfl) (by kernel_rfl) (fun _ _ _ h => h) (Or.inl ⟨by rfl, ?_⟩) ?_
  rotate_left
  · intro w
    go_simp
    try with_reducible rfl
  try simp only [Act.put, List.setIfInBounds_toArray]
  refine wpAny_take (i := 2) (v := ?_) rfl (by kernel_rfl) (by kernel_rfl) (by kernel_rfl) (fun _ _ _ h => h) (Or.inl ⟨by rfl, ?_⟩) ?_
  rotate_left
  · intro w
    go_simp
    try with_reducible rfl
  try simp only [Act.put]
  refine wpAny_ready (rs := [1, 3]) (by kernel_rfl) (by simp) ?_
  refine AllReady.cons rfl (fun K hK => ?_) ?_
  · go_simp
    refine hK _ _ ?_
    clear hK K
    try simp only [Act.put, List.setIfInBounds_toArray, List.set_cons_zero, List.set_cons_succ]
    refine wpAny_ready (rs := [3]) (by kernel_rfl) (by simp) ?_
    refine AllReady.cons rfl (fun K hK => ?_) ?_
    · go_simp
      refine hK _ _ ?_
      clear hK K
      try simp only [Act.put, List.setIfInBounds_toArray, List.set_cons_zero, List.set_cons_succ]
      refine wpAny_ready (rs := [4]) (by kernel_rfl) (by simp) ?_
      refine AllReady.cons rfl (fun K hK => ?_) ?_
      · go_simp
        refine HC.out.mono ?_
        rintro e w7 ⟨D, d, rfl, oD, z7⟩
        replace hB0 := hB0.below' z7
        replace hB1 := hB1.below' z7
        have hZ7 := hZ.trans (z7.mono hZ.size)
        replace q0 := hB0.cell 0
        replace q1 := hB0.cell 1
        replace f0 := hB1.frozen 0
        replace f1 := hB1.frozen 1
        replace p0 := hB1.cell 0
        replace p1 := hB1.cell 1
        refine hK _ _ ?_
        clear hK K
        try simp only [Act.put, List.setIfInBounds_toArray, List.set_cons_zero, List.set_cons_succ]
        refine wpAny_take (i := 5) (v := ?_) rfl (by kernel_rfl) (by kernel_rfl) (by kernel_rfl) (fun _ _ _ h => h) (Or.inl ⟨by rfl, ?_⟩) ?_
        rotate_left
        · intro w
          go_simp
          try with_reducible rfl
        try simp only [Act.put, List.setIfInBounds_toArray]
        refine wpAny_ready (rs := [6]) (by kernel_rfl) (by simp) ?_
        refine AllReady.cons rfl (fun K hK => ?_) ?_
        · go_simp
          refine hK _ _ ?_
          clear hK K
          try simp only [Act.put, List.setIfInBounds_toArray]
          refine wpAny_done (by kernel_rfl) ?_ _
          have hF := (hB1.set_ 0 (.int .i64 at_)).set_ 1 (.slice D xs.length d)
          have oF := (oD.far (p := ⟨w.heap.size + 1, 0, none⟩) (fun e => by have := oD.blk_ge _ e; simp at this; omega) (.int .i64 at_)).far (p := ⟨w.heap.size + 1, 1, none⟩) (fun e => by have := oD.blk_ge _ e; simp at this; omega) (.slice D xs.length d)
          have zF := (hZ7.setCell (p := ⟨w.heap.size + 1, 0, none⟩) (by simp) (.int .i64 at_)).setCell (p := ⟨w.heap.size + 1, 1, none⟩) (by simp) (.slice D xs.length d)
          go_wp2_with fail
          generalize (w7.setCell ⟨w.heap.size + 1, 0, none⟩ (.int .i64 at_)).setCell ⟨w.heap.size + 1, 1, none⟩ (.slice D xs.length d) = wf at *
          have g0_ : wf.cell? ⟨w.heap.size + 1, 0, none⟩ = some (.int .i64 at_) := hF.cell 0
          have g1_ : wf.cell? ⟨w.heap.size + 1, 1, none⟩ = some (.slice D xs.length d) := hF.cell 1
          exact bodyPost_ret (v := .agg #[.int .i64 at_, .slice D xs.length d]) (by simp [results, Try.results92, go_sem, g0_, g1_]) rfl ⟨D, d, rfl, oF.mono hZ.size, zF⟩
        exact AllReady.nil
      exact AllReady.nil
    exact AllReady.nil
  refine AllReady.cons rfl (fun K hK => ?_) ?_
  · go_simp
    refine hK _ _ ?_
    clear hK K
    try simp only [Act.put, List.setIfInBounds_toArray, List.set_cons_zero, List.set_cons_succ]
    refine wpAny_ready (rs := [1, 4]) (by kernel_rfl) (by simp) ?_
    refine AllReady.cons rfl (fun K hK => ?_) ?_
    · go_simp
      refine hK _ _ ?_
      clear hK K
      try simp only [Act.put, List.setIfInBounds_toArray, List.set_cons_zero, List.set_cons_succ]
      refine wpAny_ready (rs := [4]) (by kernel_rfl) (by simp) ?_
      refine AllReady.cons rfl (fun K hK => ?_) ?_
      · go_simp
        refine HC.out.mono ?_
        rintro e w7 ⟨D, d, rfl, oD, z7⟩
        replace hB0 := hB0.below' z7
        replace hB1 := hB1.below' z7
        have hZ7 := hZ.trans (z7.mono hZ.size)
        replace q0 := hB0.cell 0
        replace q1 := hB0.cell 1
        replace f0 := hB1.frozen 0
        replace f1 := hB1.frozen 1
        replace p0 := hB1.cell 0
        replace p1 := hB1.cell 1
        refine hK _ _ ?_
        clear hK K
        try simp only [Act.put, List.setIfInBounds_toArray, List.set_cons_zero, List.set_cons_succ]
        refine wpAny_take (i := 5) (v := ?_) rfl (by kernel_rfl) (by kernel_rfl) (by kernel_rfl) (fun _ _ _ h => h) (Or.inl ⟨by rfl, ?_⟩) ?_
        rotate_left
        · intro w
          go_simp
          try with_reducible rfl
        try simp only [Act.put, List.setIfInBounds_toArray]
        refine wpAny_ready (rs := [6]) (by kernel_rfl) (by simp) ?_
        refine AllReady.cons rfl (fun K hK => ?_) ?_
        · go_simp
          refine hK _ _ ?_
          clear hK K
          try simp only [Act.put, List.setIfInBounds_toArray]
          refine wpAny_done (by kernel_rfl) ?_ _
          have hF := (hB1.set_ 0 (.int .i64 at_)).set_ 1 (.slice D xs.length d)
          have oF := (oD.far (p := ⟨w.heap.size + 1, 0, none⟩) (fun e => by have := oD.blk_ge _ e; simp at this; omega) (.int .i64 at_)).far (p := ⟨w.heap.size + 1, 1, none⟩) (fun e => by have := oD.blk_ge _ e; simp at this; omega) (.slice D xs.length d)
          have zF := (hZ7.setCell (p := ⟨w.heap.size + 1, 0, none⟩) (by simp) (.int .i64 at_)).setCell (p := ⟨w.heap.size + 1, 1, none⟩) (by simp) (.slice D xs.length d)
          go_wp2_with fail
          generalize (w7.setCell ⟨w.heap.size + 1, 0, none⟩ (.int .i64 at_)).setCell ⟨w.heap.size + 1, 1, none⟩ (.slice D xs.length d) = wf at *
          have g0_ : wf.cell? ⟨w.heap.size + 1, 0, none⟩ = some (.int .i64 at_) := hF.cell 0
          have g1_ : wf.cell? ⟨w.heap.size + 1, 1, none⟩ = some (.slice D xs.length d) := hF.cell 1
          exact bodyPost_ret (v := .agg #[.int .i64 at_, .slice D xs.length d]) (by simp [results, Try.results92, go_sem, g0_, g1_]) rfl ⟨D, d, rfl, oF.mono hZ.size, zF⟩
        exact AllReady.nil
      exact AllReady.nil
    refine AllReady.cons rfl (fun K hK => ?_) ?_
    · go_simp
      refine HC.out.mono ?_
      rintro e w7 ⟨D, d, rfl, oD, z7⟩
      replace hB0 := hB0.below' z7
      replace hB1 := hB1.below' z7
      have hZ7 := hZ.trans (z7.mono hZ.size)
      replace q0 := hB0.cell 0
      replace q1 := hB0.cell 1
      replace f0 := hB1.frozen 0
      replace f1 := hB1.frozen 1
      replace p0 := hB1.cell 0
      replace p1 := hB1.cell 1
      refine hK _ _ ?_
      clear hK K
      try simp only [Act.put, List.setIfInBounds_toArray, List.set_cons_zero, List.set_cons_succ]
      refine wpAny_ready (rs := [1]) (by kernel_rfl) (by simp) ?_
      refine AllReady.cons rfl (fun K hK => ?_) ?_
      · go_simp
        refine hK _ _ ?_
        clear hK K
        try simp only [Act.put, List.setIfInBounds_toArray, List.set_cons_zero, List.set_cons_succ]
        refine wpAny_take (i := 5) (v := ?_) rfl (by kernel_rfl) (by kernel_rfl) (by kernel_rfl) (fun _ _ _ h => h) (Or.inl ⟨by rfl, ?_⟩) ?_
        rotate_left
        · intro w
          go_simp
          try with_reducible rfl
        try simp only [Act.put, List.setIfInBounds_toArray]
        refine wpAny_ready (rs := [6]) (by kernel_rfl) (by simp) ?_
        refine AllReady.cons rfl (fun K hK => ?_) ?_
        · go_simp
          refine hK _ _ ?_
          clear hK K
          try simp only [Act.put, List.setIfInBounds_toArray]
          refine wpAny_done (by kernel_rfl) ?_ _
          have hF := (hB1.set_ 0 (.int .i64 at_)).set_ 1 (.slice D xs.length d)
          have oF := (oD.far (p := ⟨w.heap.size + 1, 0, none⟩) (fun e => by have := oD.blk_ge _ e; simp at this; omega) (.int .i64 at_)).far (p := ⟨w.heap.size + 1, 1, none⟩) (fun e => by have := oD.blk_ge _ e; simp at this; omega) (.slice D xs.length d)
          have zF := (hZ7.setCell (p := ⟨w.heap.size + 1, 0, none⟩) (by simp) (.int .i64 at_)).setCell (p := ⟨w.heap.size + 1, 1, none⟩) (by simp) (.slice D xs.length d)
          go_wp2_with fail
          generalize (w7.setCell ⟨w.heap.size + 1, 0, none⟩ (.int .i64 at_)).setCell ⟨w.heap.size + 1, 1, none⟩ (.slice D xs.length d) = wf at *
          have g0_ : wf.cell? ⟨w.heap.size + 1, 0, none⟩ = some (.int .i64 at_) := hF.cell 0
          have g1_ : wf.cell? ⟨w.heap.size + 1, 1, none⟩ = some (.slice D xs.length d) := hF.cell 1
          exact bodyPost_ret (v := .agg #[.int .i64 at_, .slice D xs.length d]) (by simp [results, Try.results92, go_sem, g0_, g1_]) rfl ⟨D, d, rfl, oF.mono hZ.size, zF⟩
        exact AllReady.nil
      exact AllReady.nil
    exact AllReady.nil
  exact AllReady.nil
/-- A store behind a pointer. -/
def StoAt (w0 : World) (g : Nat) (s : Sto) (W : World) : Prop :=
  w0.heap.size ≤ g ∧ Below w0.heap.size w0 W ∧ ∃ C c, Blk W g 33 #[.int .i64 s.p, .slice C s.xs.length c] ∧ Own W w0.heap.size 2 1 C s.xs.length c (ints s.xs)
theorem StoAt.below {w0 W W' : World} {g : Nat} {s : Sto} (h : StoAt w0 g s W) (z : Below W.heap.size W W') : StoAt w0 g s W' := by
  obtain ⟨h1, h2, C, c, h3, h4⟩ := h
  exact ⟨h1, h2.trans (z.mono h2.size), C, c, h3.below' z, h4.below z⟩
def StepPost (w0 : World) (g : Nat) (ps : List R4) (s : Sto) (e : Ending) (w' : World) : Prop := ∃ b : Bool, e = .returned (.bool b) ∧ (b = true ↔ roomP ps s) ∧ StoAt w0 g (stepP ps s) w'
set_option maxRecDepth 100000 in
set_option maxHeartbeats 4000000 in
theorem stepStore_any (w0 w : World) (g : Nat) (s : Sto) (A : Option Addr) (n k : Nat) (ps : List R4) (hs : StoAt w0 g s w) (hp : S4 w0 A n ps) (_hn : n ≤ 400) (hv : validProgB ps = true) (hst : storeB ps s = true) (he : ¬ endP ps s) :
    Calls Try.prog 180 #[.slice A n k, .pointer (some ⟨g, 0, none⟩)] w (StepPost w0 g ps s) := by
  obtain ⟨p, xs⟩ := s
  have hst2 := storeB_iff.1 hst
  obtain ⟨t0, t1, t2, t3⟩ := hst2
  dsimp only at t0 t1 t2 t3
  obtain ⟨a, rfl⟩ : ∃ a : Nat, p = (a : Int) := ⟨p.toNat, by omega⟩
  have HT2 : Hid (xs.length = 24) := Lib.hid t2
  have hpl := hp.len
  unfold endP at he
  dsimp only at he
  have han : a < n := by omega
  obtain ⟨hg, hz, C, c, hB, hO⟩ := hs
  dsimp only at hB hO
  obtain ⟨r, b, off, hR, hrm, rfl, hbl, x0, x1, x2, x3⟩ := (hp.below hz).pick han
  have hri : instrOf ps (a : Int) = r := by
    unfold instrOf
    rw [Int.toNat_natCast, List.getD_eq_getElem?_getD, hR.out]; rfl
  have hvi := (prog_instr hv (k := (a : Int)) (by omega) (by omega)).2
  rw [hri, validInstr_iff] at hvi
  obtain ⟨r0, r1, r2, r3, r4⟩ := hvi
  obtain ⟨ra, rb, rc, rd⟩ := r
  dsimp only at x0 x1 x2 x3 r0 r1 r2 r3 r4
  obtain ⟨q, rfl⟩ : ∃ q : Nat, rb = (q : Int) := ⟨rb.toNat, by omega⟩
  have hq24 : q < xs.length := by omega
  obtain ⟨bc, offc, rfl, hc0, hc1, y0, yf⟩ := hO.at_ (k := q) (by rw [length_ints]; exact hq24)
  rw [ints_get] at y0
  obtain ⟨v, hvv⟩ : ∃ v, v = xs[q]'hq24 := ⟨_, rfl⟩
  rw [← hvv] at y0
  have hvr := t3 _ (List.getElem_mem hq24)
  rw [← hvv] at hvr
  have hgi : getI xs (q : Int) = v := by unfold getI; rw [Int.toNat_natCast, List.getD_eq_getElem?_getD, List.getElem?_eq_getElem hq24, hvv]; rfl
  have hcg : ¬ bc = g := fun e => hB.apt hO (by decide) (by rw [← e]; rfl)
  have hgc : ¬ g = bc := fun e => hcg e.symm
  have hgl := hB.lt
  obtain ⟨V, hW_⟩ : ∃ W_, W_ = w.alloc (.cells #[.int .i64 ra, .int .i64 (q : Int), .int .i64 rc, .int .i64 rd] 133) := ⟨_, rfl⟩
  have bV : Blk V w.heap.size 133 #[.int .i64 ra, .int .i64 (q : Int), .int .i64 rc, .int .i64 rd] := by rw [hW_]; exact Blk.new w _ _
  have zV : Below w.heap.size w V := by rw [hW_]; exact (Below.refl _ _).alloc (Nat.le_refl _) _
  have HV := Lib.hid hW_
  clear hW_
  have HBV := Lib.hid (hB.below' zV)
  have HOV := Lib.hid (hO.below zV)
  have HZV := Lib.hid (hz.trans (zV.mono hz.size))
  have HBX := Lib.hid bV
  have HRI := Lib.hid hri
  have HGI := Lib.hid hgi
  have hxg : ¬ w.heap.size = g := by omega
  have hxc : ¬ w.heap.size = bc := by omega
  have hgx : ¬ g = w.heap.size := by omega
  have hcx : ¬ bc = w.heap.size := by omega
  have i1 : (0 : Int) ≤ (a : Int) := by omega
  have i2 : (a : Int) < (n : Int) := by omega
  have i3 : (0 : Int) ≤ (q : Int) := by omega
  have i4 : (q : Int) < (xs.length : Int) := by omega
  have g0 : w.cell? ⟨g, 0, none⟩ = some (.int .i64 (a : Int)) := hB.cell 0
  clear hz hB hO zV bV hvv hri hgi hR hst t3 hp hrm hv he t2
  go_enter Try.func180, Try.ntmps180
  go_upto_region 2 with fail
  rw [← HV.out]
  clear x0 x1 x2 x3 g0 y0 yf
  have g0 : V.cell? ⟨g, 0, none⟩ = some (.int .i64 (a : Int)) := HBV.out.cell 0
  have g1 : V.cell? ⟨g, 1, none⟩ = some (.slice (some ⟨bc, offc, none⟩) xs.length c) := HBV.out.cell 1
  have u1 : V.cell? ⟨w.heap.size, 1, none⟩ = some (.int .i64 (q : Int)) := HBX.out.cell 1
  go_quiet (fail)
  obtain ⟨V2, hV2⟩ : ∃ V2, V2 = V.drewN nq := ⟨_, rfl⟩
  rw [← hV2]
  have hB2 : Blk V2 g 33 #[.int .i64 (a : Int), .slice (some ⟨bc, offc, none⟩) xs.length c] := by rw [hV2]; exact HBV.out
  have hO2 : Own V2 w0.heap.size 2 1 (some ⟨bc, offc, none⟩) xs.length c (ints xs) := by rw [hV2]; exact HOV.out
  have hZ2 : Below w0.heap.size w0 V2 := by rw [hV2]; exact below_drewN HZV.out _
  have hX2 : Blk V2 w.heap.size 133 #[.int .i64 ra, .int .i64 (q : Int), .int .i64 rc, .int .i64 rd] := by rw [hV2]; exact HBX.out
  have y0 : V2.cell? ⟨bc, offc + q, none⟩ = some (.int .i64 v) := by
    obtain ⟨b', off', e, _, _, h, _⟩ := hO2.at_ (k := q) (by rw [length_ints]; exact hq24)
    simp only [Option.some.injEq, Addr.mk.injEq, and_true] at e
    obtain ⟨rfl, rfl⟩ := e
    rw [h, ints_get]
    have e2 : getI xs (q : Int) = xs[q]'hq24 := by unfold getI; rw [Int.toNat_natCast, List.getD_eq_getElem?_getD, List.getElem?_eq_getElem hq24]; rfl
    rw [← e2, HGI.out]
  have yf : V2.frozen? ⟨bc, offc + q, none⟩ = false := by
    obtain ⟨b', off', e, _, _, _, h⟩ := hO2.at_ (k := q) (by rw [length_ints]; exact hq24)
    simp only [Option.some.injEq, Addr.mk.injEq, and_true] at e
    obtain ⟨rfl, rfl⟩ := e
    exact h
  clear g0 g1 u1 hV2 HBV HOV HZV HBX
  have HB2 := Lib.hid hB2
  have HO2 := Lib.hid hO2
  have HZ2 := Lib.hid hZ2
  have g0 : V2.cell? ⟨g, 0, none⟩ = some (.int .i64 (a : Int)) := hB2.cell 0
  have gf := hB2.frozen 0
  have u0 : V2.cell? ⟨w.heap.size, 0, none⟩ = some (.int .i64 ra) := hX2.cell 0
  have u1 : V2.cell? ⟨w.heap.size, 1, none⟩ = some (.int .i64 (q : Int)) := hX2.cell 1
  have u2 : V2.cell? ⟨w.heap.size, 2, none⟩ = some (.int .i64 rc) := hX2.cell 2
  have u3 : V2.cell? ⟨w.heap.size, 3, none⟩ = some (.int .i64 rd) := hX2.cell 3
  obtain ⟨v0, v1⟩ := hvr
  have set1 : ∀ x : Int, Hid (Own (V2.setCell ⟨bc, offc + q, none⟩ (.int .i64 x)) w0.heap.size 2 1 (some ⟨bc, offc, none⟩) (xs.set q x).length c (ints (xs.set q x))) := fun x => Lib.hid (by
    have h := HO2.out.set_ (k := q) (by rw [length_ints]; exact hq24) (.int .i64 x)
    rw [ints_set] at h
    rw [List.length_set]; exact h)
  have SET1 := Lib.hid set1
  clear hB2 hO2 hZ2 hX2 set1
  by_cases ha0 : ra = 0
  · have a0 : (ra == 0) = true := by rw [ha0]; rfl
    have HST : Hid (stepP ps ⟨(a : Int), xs⟩ = ⟨rc, xs.set q (v + 1)⟩) := Lib.hid (by unfold stepP; rw [HRI.out]; dsimp only; rw [if_pos ha0, HGI.out, Int.toNat_natCast])
    have HRM : Hid (roomP ps ⟨(a : Int), xs⟩ ↔ v + 1 ≤ 1000000) := Lib.hid (by
      unfold roomP; rw [HST.out, HRI.out]; dsimp only
      rw [show xs.set q (v + 1) = xs.set ((q : Int).toNat) (v + 1) by rw [Int.toNat_natCast], getI_set _ _ _ _ (by omega) (by omega) (by omega), if_pos rfl])
    have HF : Hid (StoAt w0 g (stepP ps ⟨(a : Int), xs⟩) ((V2.setCell ⟨bc, offc + q, none⟩ (.int .i64 (v + 1))).setCell ⟨g, 0, none⟩ (.int .i64 rc))) := Lib.hid (by
      rw [HST.out]
      refine ⟨hg, (HZ2.out.setCell (p := ⟨bc, offc + q, none⟩) hc0 _).setCell (p := ⟨g, 0, none⟩) hg _, some ⟨bc, offc, none⟩, c, ?_, ?_⟩
      · have h := (HB2.out.far (p := ⟨bc, offc + q, none⟩) hgc (.int .i64 (v + 1))).set_ 0 (.int .i64 rc)
        dsimp only
        rw [List.length_set]
        exact h
      · exact (SET1.out (v + 1)).out.far (p := ⟨g, 0, none⟩) (fun e => hcg (by simpa [blk] using e)) _)
    clear ha0
    go_wp2_with fail
    go_ret
    exact ⟨_, rfl, by rw [HRM.out]; simp, HF.out⟩
  have a0 : (ra == 0) = false := by simpa using ha0
  have ha1 : ¬ ra = 0 := ha0
  by_cases hv0 : 0 < v
  · have HST : Hid (stepP ps ⟨(a : Int), xs⟩ = ⟨rc, xs.set q (v - 1)⟩) := Lib.hid (by unfold stepP; rw [HRI.out]; dsimp only; rw [if_neg ha1, HGI.out, if_pos hv0, Int.toNat_natCast])
    have HRM : Hid (roomP ps ⟨(a : Int), xs⟩ ↔ v - 1 ≤ 1000000) := Lib.hid (by
      unfold roomP; rw [HST.out, HRI.out]; dsimp only
      rw [show xs.set q (v - 1) = xs.set ((q : Int).toNat) (v - 1) by rw [Int.toNat_natCast], getI_set _ _ _ _ (by omega) (by omega) (by omega), if_pos rfl])
    have HF : Hid (StoAt w0 g (stepP ps ⟨(a : Int), xs⟩) ((V2.setCell ⟨bc, offc + q, none⟩ (.int .i64 (v - 1))).setCell ⟨g, 0, none⟩ (.int .i64 rc))) := Lib.hid (by
      rw [HST.out]
      refine ⟨hg, (HZ2.out.setCell (p := ⟨bc, offc + q, none⟩) hc0 _).setCell (p := ⟨g, 0, none⟩) hg _, some ⟨bc, offc, none⟩, c, ?_, ?_⟩
      · have h := (HB2.out.far (p := ⟨bc, offc + q, none⟩) hgc (.int .i64 (v - 1))).set_ 0 (.int .i64 rc)
        dsimp only
        rw [List.length_set]
        exact h
      · exact (SET1.out (v - 1)).out.far (p := ⟨g, 0, none⟩) (fun e => hcg (by simpa [blk] using e)) _)
    clear ha0 ha1
    go_wp2_with fail
    go_ret
    exact ⟨_, rfl, by rw [HRM.out]; simp; try omega, HF.out⟩
  · have HST : Hid (stepP ps ⟨(a : Int), xs⟩ = ⟨rd, xs⟩) := Lib.hid (by unfold stepP; rw [HRI.out]; dsimp only; rw [if_neg ha1, HGI.out, if_neg hv0])
    have HRM : Hid (roomP ps ⟨(a : Int), xs⟩ ↔ v ≤ 1000000) := Lib.hid (by
      unfold roomP; rw [HST.out, HRI.out]; dsimp only; rw [HGI.out])
    have HF : Hid (StoAt w0 g (stepP ps ⟨(a : Int), xs⟩) (V2.setCell ⟨g, 0, none⟩ (.int .i64 rd))) := Lib.hid (by
      rw [HST.out]
      exact ⟨hg, HZ2.out.setCell (p := ⟨g, 0, none⟩) hg _, some ⟨bc, offc, none⟩, c, HB2.out.set_ 0 (.int .i64 rd), HO2.out.far (p := ⟨g, 0, none⟩) (fun e => hcg (by simpa [blk] using e)) _⟩)
    clear ha0 ha1
    go_wp2_with fail
    go_ret
    exact ⟨_, rfl, by rw [HRM.out]; simp; try omega, HF.out⟩
end Go.Proofs.Ytdlojbabnelbdaa
