/-
  Contracts of the assembly's methods part and done, of joinPrograms and moveRegister.
-/
import Derived.Test.YtdlojbabnelbdaaPbStartI1
import Derived.Test.YtdlojbabnelbdaaPbStartI5
import Derived.Test.YtdlojbabnelbdaaPbStartI6
import Derived.Test.YtdlojbabnelbdaaPkRegisterChoices1
import Derived.Lib.AppendZeros
import Derived.Lib.MinMax
import Derived.Deep.DeepCutAuto
import Derived.BigRegion
import Derived.BigQuiet
import Derived.BigGuardPart
namespace Go.Proofs.Ytdlojbabnelbdaa
open Go.RowKit

set_option maxRecDepth 100000 in
set_option maxHeartbeats 4000000 in
theorem part_any (w0 w : World) (g : Nat) (rs : List R4) (P : Option Addr) (k : Nat) (ps : List R4) (h_ : Int) (h : Asm w0 g rs w) (hp : S4 w P ps.length ps) (hl : rs.length ≤ 500) (hm : ps.length ≤ 400) (hv : ∀ x ∈ ps, 0 ≤ x.c ∧ x.c ≤ 400 ∧ 0 ≤ x.d ∧ x.d ≤ 400) :
    Calls Try.prog 84 #[.pointer (some ⟨g, 0, none⟩), .slice P ps.length k, .int .i64 h_] w (AsmPost w0 g (rs ++ partP ps (rs.length : Int) h_)) := by
  obtain ⟨h1, h2, A, c, h3, h4⟩ := h
  obtain ⟨W, hW_⟩ : ∃ W, W = (w.alloc (.cells #[.slice P ps.length k] 24)).alloc (.cells #[.int .i64 h_] 2) := ⟨_, rfl⟩
  have s_1 : (w.alloc (.cells #[.slice P ps.length k] 24)).heap.size = w.heap.size + 1 := by simp
  have b0 : Blk W w.heap.size 24 #[.slice P ps.length k] := by rw [hW_]; exact (Blk.new w _ _).alloc _
  have b1 : Blk W (w.heap.size + 1) 2 #[.int .i64 h_] := by rw [hW_, ← s_1]; exact Blk.new _ _ _
  have y0 : Below w.heap.size w W := by rw [hW_]; exact ((Below.refl _ _).alloc (Nat.le_refl _) _).alloc (by simp) _
  have HW := Lib.hid hW_
  clear hW_ s_1
  obtain ⟨V, hW_⟩ : ∃ W_, W_ = W.alloc (.cells #[.int .i64 (rs.length : Int)] 2) := ⟨_, rfl⟩
  have b2 : Blk V W.heap.size 2 #[.int .i64 (rs.length : Int)] := by rw [hW_]; exact Blk.new W _ _
  have zV : Below W.heap.size W V := by rw [hW_]; exact (Below.refl _ _).alloc (Nat.le_refl _) _
  have HV := Lib.hid hW_
  clear hW_
  have HB := Lib.hid ((h3.below' y0).below' zV)
  have HO := Lib.hid ((h4.below y0).below zV)
  have HZ := Lib.hid ((h2.trans (y0.mono h2.size)).trans (zV.mono (h2.trans (y0.mono h2.size)).size))
  have HP := Lib.hid ((hp.below y0).below zV)
  have d0 := b0.below' zV
  have d1 := b1.below' zV
  have k0 : W.cell? ⟨g, 0, none⟩ = some (.slice A rs.length c) := (h3.below' y0).cell 0
  have HR : Hid (Calls Try.prog 175 #[.slice P ps.length k, .func (.func 176) #[] #[.pointer (some ⟨w.heap.size, 0, none⟩), .pointer (some ⟨w.heap.size + 1, 0, none⟩), .pointer (some ⟨W.heap.size, 0, none⟩)]] V.drew (NewQ V.drew (partP ps (rs.length : Int) h_))) := Lib.hid (by
    refine redirected_any P k ps _ _ _ _ _ _ (HP.out.drewN 1) (by omega) Try.call176 (Lib.hid (fun x hx t ht W' hW' => ?_))
    have e0 := d0.below' (w' := W') ⟨hW'.os, hW'.tape, hW'.output, hW'.size, hW'.block⟩
    have e1 := d1.below' (w' := W') ⟨hW'.os, hW'.tape, hW'.output, hW'.size, hW'.block⟩
    have e2 := b2.below' (w' := W') ⟨hW'.os, hW'.tape, hW'.output, hW'.size, hW'.block⟩
    have hx2 := hv x hx
    exact part1_any _ _ _ P ps.length k h_ (rs.length : Int) t W' (e0.cell 0) (e1.cell 0) (e2.cell 0) (by omega) (by rcases ht with rfl | rfl <;> omega) (by rcases ht with rfl | rfl <;> omega) (by omega) (by omega))
  have HD0 : Hid (∀ W' : World, W' = V.drew → W'.cell? ⟨w.heap.size, 0, none⟩ = some (.slice P ps.length k)) := Lib.hid (by rintro _ rfl; exact d0.cell 0)
  clear h3 h4 h2 hp b0 b1 hv
  go_enter Try.func84, Try.ntmps84
  go_upto_region 1 with fail
  rw [← HW.out]
  clear HW
  go_wp2_with (go_at_call 82; refine (sizeQ_any _ _ _ _ (by omega)).mono ?_; rintro e w' ⟨rfl, rfl⟩)
  rw [← HV.out]
  clear HV k0
  have hB : Blk V.drew g 129 #[.slice A rs.length c] := HB.out
  have hO : Own V.drew w0.heap.size 133 4 A rs.length c (cells4 rs) := HO.out
  have hZ : Below w0.heap.size w0 V.drew := below_drewN HZ.out 1
  have kg := hB.cell 0
  have kf := hB.frozen 0
  have kp := HD0.out _ rfl
  clear HB HO HZ HP d0 d1 b2 HD0
  have hR := HR.out
  clear HR
  refine wp_region_any (by kernel_rfl) ?_
  try (change wpAny _ _ _ _ _ _ _ (World.drew _))
  generalize V.drew = Wc at *
  refine wpAny_take (i := 0) (v := ?_) rfl (by kernel_rfl) (by kernel_rfl) (by kernel_rfl) (fun _ _ _ h => h) (Or.inl ⟨by rfl, ?_⟩) ?_
  rotate_left
  · intro w
    go_simp
    try with_reducible rfl
  try simp only [Act.put, List.setIfInBounds_toArray]
  refine wpAny_take (i := 1) (v := ?_) rfl (by kernel_rfl) (by kernel_rfl) (by kernel_rfl) (fun _ _ _ h => h) (Or.inl ⟨by rfl, ?_⟩) ?_
  rotate_left
  · intro w
    go_simp
    try with_reducible rfl
  try simp only [Act.put]
  refine wpAny_take (i := 2) (v := ?_) rfl (by kernel_rfl) (by kernel_rfl) (by kernel_rfl) (fun _ _ _ h => h) (Or.inl ⟨by rfl, ?_⟩) ?_
  rotate_left
  · intro w
    go_simp
    try with_reducible rfl
  try simp only [Act.put]
  refine wpAny_take (i := 3) (v := ?_) rfl (by kernel_rfl) (by kernel_rfl) (by kernel_rfl) (fun _ _ _ h => h) (Or.inl ⟨by rfl, ?_⟩) ?_
  rotate_left
  · intro w
    go_simp
    try with_reducible rfl
  try simp only [Act.put]
  refine wpAny_take (i := 6) (v := ?_) rfl (by kernel_rfl) (by kernel_rfl) (by kernel_rfl) (fun _ _ _ h => h) (Or.inl ⟨by rfl, ?_⟩) ?_
  rotate_left
  · intro w
    go_simp
    try with_reducible rfl
  try simp only [Act.put]
  refine wpAny_ready (rs := [4, 5]) (by kernel_rfl) (by simp) ?_
  refine AllReady.cons rfl (fun K hK => ?_) ?_
  · go_simp
    refine hK _ _ ?_
    clear hK K
    try simp only [Act.put, List.setIfInBounds_toArray, List.set_cons_zero, List.set_cons_succ]
    refine wpAny_ready (rs := [5]) (by kernel_rfl) (by simp) ?_
    refine AllReady.cons rfl (fun K hK => ?_) ?_
    · go_simp
      refine hK _ _ ?_
      clear hK K
      try simp only [Act.put, List.setIfInBounds_toArray, List.set_cons_zero, List.set_cons_succ]
      refine wpAny_ready (rs := [7]) (by kernel_rfl) (by simp) ?_
      refine AllReady.cons rfl (fun K hK => ?_) ?_
      · go_simp
        refine hR.mono ?_
        rintro e w7 ⟨D, d, rfl, oD, z7⟩
        replace hB := hB.below' z7
        replace hO := hO.below z7
        replace hZ := hZ.trans (z7.mono hZ.size)
        replace kg := hB.cell 0
        replace kf := hB.frozen 0
        refine hK _ _ ?_
        clear hK K
        try simp only [Act.put, List.setIfInBounds_toArray, List.set_cons_zero, List.set_cons_succ]
        refine wpAny_ready (rs := [8]) (by kernel_rfl) (by simp) ?_
        refine AllReady.cons rfl (fun K hK => ?_) ?_
        · rw [if_pos (by rfl)]
          refine wp_append_Own (.tmp 17) (.tmp 20) rfl elQ (lo := w0.heap.size) rfl hO rfl oD.rd (cells4_one _) (by rw [partP_len]; omega) (by rw [partP_len]; simp only [maxLen]; omega) hZ.size ?_
          intro A2 c2 w2 o2 g2 _
          have hF := Asm.more h1 hZ hB hO o2 g2
          have hB2 := hB.grown hO g2 (by decide)
          replace kg := hB2.cell 0
          replace kf := hB2.frozen 0
          refine hK _ _ ?_
          clear hK K
          try simp only [Act.put, List.setIfInBounds_toArray]
          refine wpAny_take (i := 9) (v := ?_) rfl (by kernel_rfl) (by kernel_rfl) (by kernel_rfl) (fun _ _ _ h => h) (Or.inl ⟨by rfl, ?_⟩) ?_
          rotate_left
          · intro w
            go_simp
            try with_reducible rfl
          try simp only [Act.put]
          refine wpAny_take (i := 10) (v := ?_) rfl (by kernel_rfl) (by kernel_rfl) (by kernel_rfl) (fun _ _ _ h => h) (Or.inl ⟨by rfl, ?_⟩) ?_
          rotate_left
          · intro w
            go_simp
            try with_reducible rfl
          try simp only [Act.put]
          refine wpAny_ready (rs := [11]) (by kernel_rfl) (by simp) ?_
          refine AllReady.cons rfl (fun K hK => ?_) ?_
          · go_simp
            refine hK _ _ ?_
            clear hK K
            try simp only [Act.put, List.setIfInBounds_toArray]
            refine wpAny_done (by kernel_rfl) ?_ _
            go_wp2_with fail
            go_ret
            exact ⟨rfl, hF⟩
          exact AllReady.nil
        exact AllReady.nil
      exact AllReady.nil
    exact AllReady.nil
  refine AllReady.cons rfl (fun K hK => ?_) ?_
  · go_simp
    refine hK _ _ ?_
    clear hK K
    try simp only [Act.put, List.setIfInBounds_toArray, List.set_cons_zero, List.set_cons_succ]
    refine wpAny_ready (rs := [4, 7]) (by kernel_rfl) (by simp) ?_
    refine AllReady.cons rfl (fun K hK => ?_) ?_
    · go_simp
      refine hK _ _ ?_
      clear hK K
      try simp only [Act.put, List.setIfInBounds_toArray, List.set_cons_zero, List.set_cons_succ]
      refine wpAny_ready (rs := [7]) (by kernel_rfl) (by simp) ?_
      refine AllReady.cons rfl (fun K hK => ?_) ?_
      · go_simp
        refine hR.mono ?_
        rintro e w7 ⟨D, d, rfl, oD, z7⟩
        replace hB := hB.below' z7
        replace hO := hO.below z7
        replace hZ := hZ.trans (z7.mono hZ.size)
        replace kg := hB.cell 0
        replace kf := hB.frozen 0
        refine hK _ _ ?_
        clear hK K
        try simp only [Act.put, List.setIfInBounds_toArray, List.set_cons_zero, List.set_cons_succ]
        refine wpAny_ready (rs := [8]) (by kernel_rfl) (by simp) ?_
        refine AllReady.cons rfl (fun K hK => ?_) ?_
        · rw [if_pos (by rfl)]
          refine wp_append_Own (.tmp 17) (.tmp 20) rfl elQ (lo := w0.heap.size) rfl hO rfl oD.rd (cells4_one _) (by rw [partP_len]; omega) (by rw [partP_len]; simp only [maxLen]; omega) hZ.size ?_
          intro A2 c2 w2 o2 g2 _
          have hF := Asm.more h1 hZ hB hO o2 g2
          have hB2 := hB.grown hO g2 (by decide)
          replace kg := hB2.cell 0
          replace kf := hB2.frozen 0
          refine hK _ _ ?_
          clear hK K
          try simp only [Act.put, List.setIfInBounds_toArray]
          refine wpAny_take (i := 9) (v := ?_) rfl (by kernel_rfl) (by kernel_rfl) (by kernel_rfl) (fun _ _ _ h => h) (Or.inl ⟨by rfl, ?_⟩) ?_
          rotate_left
          · intro w
            go_simp
            try with_reducible rfl
          try simp only [Act.put]
          refine wpAny_take (i := 10) (v := ?_) rfl (by kernel_rfl) (by kernel_rfl) (by kernel_rfl) (fun _ _ _ h => h) (Or.inl ⟨by rfl, ?_⟩) ?_
          rotate_left
          · intro w
            go_simp
            try with_reducible rfl
          try simp only [Act.put]
          refine wpAny_ready (rs := [11]) (by kernel_rfl) (by simp) ?_
          refine AllReady.cons rfl (fun K hK => ?_) ?_
          · go_simp
            refine hK _ _ ?_
            clear hK K
            try simp only [Act.put, List.setIfInBounds_toArray]
            refine wpAny_done (by kernel_rfl) ?_ _
            go_wp2_with fail
            go_ret
            exact ⟨rfl, hF⟩
          exact AllReady.nil
        exact AllReady.nil
      exact AllReady.nil
    refine AllReady.cons rfl (fun K hK => ?_) ?_
    · go_simp
      refine hR.mono ?_
      rintro e w7 ⟨D, d, rfl, oD, z7⟩
      replace hB := hB.below' z7
      replace hO := hO.below z7
      replace hZ := hZ.trans (z7.mono hZ.size)
      replace kg := hB.cell 0
      replace kf := hB.frozen 0
      refine hK _ _ ?_
      clear hK K
      try simp only [Act.put, List.setIfInBounds_toArray, List.set_cons_zero, List.set_cons_succ]
      refine wpAny_ready (rs := [4]) (by kernel_rfl) (by simp) ?_
      refine AllReady.cons rfl (fun K hK => ?_) ?_
      · go_simp
        refine hK _ _ ?_
        clear hK K
        try simp only [Act.put, List.setIfInBounds_toArray, List.set_cons_zero, List.set_cons_succ]
        refine wpAny_ready (rs := [8]) (by kernel_rfl) (by simp) ?_
        refine AllReady.cons rfl (fun K hK => ?_) ?_
        · rw [if_pos (by rfl)]
          refine wp_append_Own (.tmp 17) (.tmp 20) rfl elQ (lo := w0.heap.size) rfl hO rfl oD.rd (cells4_one _) (by rw [partP_len]; omega) (by rw [partP_len]; simp only [maxLen]; omega) hZ.size ?_
          intro A2 c2 w2 o2 g2 _
          have hF := Asm.more h1 hZ hB hO o2 g2
          have hB2 := hB.grown hO g2 (by decide)
          replace kg := hB2.cell 0
          replace kf := hB2.frozen 0
          refine hK _ _ ?_
          clear hK K
          try simp only [Act.put, List.setIfInBounds_toArray]
          refine wpAny_take (i := 9) (v := ?_) rfl (by kernel_rfl) (by kernel_rfl) (by kernel_rfl) (fun _ _ _ h => h) (Or.inl ⟨by rfl, ?_⟩) ?_
          rotate_left
          · intro w
            go_simp
            try with_reducible rfl
          try simp only [Act.put]
          refine wpAny_take (i := 10) (v := ?_) rfl (by kernel_rfl) (by kernel_rfl) (by kernel_rfl) (fun _ _ _ h => h) (Or.inl ⟨by rfl, ?_⟩) ?_
          rotate_left
          · intro w
            go_simp
            try with_reducible rfl
          try simp only [Act.put]
          refine wpAny_ready (rs := [11]) (by kernel_rfl) (by simp) ?_
          refine AllReady.cons rfl (fun K hK => ?_) ?_
          · go_simp
            refine hK _ _ ?_
            clear hK K
            try simp only [Act.put, List.setIfInBounds_toArray]
            refine wpAny_done (by kernel_rfl) ?_ _
            go_wp2_with fail
            go_ret
            exact ⟨rfl, hF⟩
          exact AllReady.nil
        exact AllReady.nil
      exact AllReady.nil
    exact AllReady.nil
  exact AllReady.nil
set_option maxHeartbeats 1000000 in
theorem done_yes (w0 w : World) (g : Nat) (rs : List R4) (h : Asm w0 g rs w) (hle : rs.length ≤ 400) :
    Calls Try.prog 85 #[.pointer (some ⟨g, 0, none⟩)] w fun e w' => (∃ A c, e = .returned (.tuple #[.slice A rs.length c, .int .i64 0]) ∧ Own w' w0.heap.size 133 4 A rs.length c (cells4 rs)) ∧ w = w' := by
  obtain ⟨h1, h2, A, c, h3, h4⟩ := h
  have HO := Lib.hid h4
  have k0 : w.cell? ⟨g, 0, none⟩ = some (.slice A rs.length c) := h3.cell 0
  clear h3 h4 h2
  have i1 : ¬ (400 : Int) < (rs.length : Int) := by omega
  go_enter Try.func85, Try.ntmps85
  go_wp2_with fail
  exact bodyPost_ret (v := .tuple #[.slice A rs.length c, .int .i64 0]) (by simp [results, Try.results85, go_sem]) rfl ⟨⟨A, c, rfl, HO.out⟩, rfl⟩
set_option maxHeartbeats 1000000 in
/-- The finished list, where a field is read behind a pointer. -/
theorem Asm.cell {w0 w : World} {g : Nat} {rs : List R4} (h : Asm w0 g rs w) : ∃ A c, w.cell? ⟨g, 0, none⟩ = some (.slice A rs.length c) ∧ g < w.heap.size ∧ Own w w0.heap.size 133 4 A rs.length c (cells4 rs) ∧ Below w0.heap.size w0 w := by
  obtain ⟨h1, h2, A, c, h3, h4⟩ := h
  exact ⟨A, c, h3.cell 0, h3.lt, h4, h2⟩
theorem Asm.start (w : World) : Asm w w.heap.size [] (w.alloc (.cells #[.slice none 0 0] 129)) :=
  ⟨Nat.le_refl _, (Below.refl _ _).alloc (Nat.le_refl _) _, none, 0, Blk.new w _ _, Own.nil⟩
def JoinPost (w : World) (rs : List R4) (e : Ending) (w' : World) : Prop := ∃ g, e = .returned (.pointer (some ⟨g, 0, none⟩)) ∧ Asm w g rs w'
def joinP (p q : List R4) : List R4 := partP p 0 (p.length : Int) ++ partP q (p.length : Int) ((p.length : Int) + (q.length : Int))
set_option maxHeartbeats 1000000 in
theorem joinPrograms_any (P Q : Option Addr) (k l : Nat) (p q : List R4) (w : World) (hp : S4 w P p.length p) (hq : S4 w Q q.length q) (hpl : p.length ≤ 400) (hql : q.length ≤ 400) (hpv : ∀ x ∈ p, 0 ≤ x.c ∧ x.c ≤ 400 ∧ 0 ≤ x.d ∧ x.d ≤ 400) (hqv : ∀ x ∈ q, 0 ≤ x.c ∧ x.c ≤ 400 ∧ 0 ≤ x.d ∧ x.d ≤ 400) :
    Calls Try.prog 97 #[.slice P p.length k, .slice Q q.length l] w (JoinPost w (joinP p q)) := by
  obtain ⟨V, hV⟩ : ∃ V, V = w.alloc (.cells #[.slice none 0 0] 129) := ⟨_, rfl⟩
  have hA : Asm w w.heap.size [] V := by rw [hV]; exact Asm.start w
  have hP : S4 V P p.length p := by rw [hV]; exact hp.alloc _
  have HV := Lib.hid hV
  have HQ : Hid (∀ W, Below w.heap.size w W → S4 W Q q.length q) := Lib.hid (fun W z => hq.below z)
  have HP1 := Lib.hid (part_any w V w.heap.size [] P k p (p.length : Int) hA hP (by simp) hpl hpv)
  have v1 : IntKind.i64.wrap ((p.length : Int) + (q.length : Int)) = (p.length : Int) + (q.length : Int) := IntWalk.i64_in _ (by omega)
  clear hV hA hP hp hq hpv
  go_enter Try.func97, Try.ntmps97
  go_upto_region 2 with fail
  rw [← HV.out]
  clear HV
  go_wp2_with (first
    | (go_at_call 82; refine (sizeQ_any _ _ _ _ (by omega)).mono ?_; rintro e w' ⟨rfl, rfl⟩)
    | (go_at_call 84; refine HP1.out.mono ?_; rintro e1 w1 ⟨rfl, hA1⟩; clear HP1; have HA1 := Lib.hid hA1; clear hA1))
  have HA2 : Hid (Asm w w.heap.size (partP p 0 (p.length : Int)) w1) := HA1
  have HP2 := Lib.hid (part_any w w1 w.heap.size _ Q l q ((p.length : Int) + (q.length : Int)) HA2.out (HQ.out _ HA2.out.2.1) (by rw [partP_len]; omega) hql hqv)
  clear HA1
  refine HP2.out.mono ?_
  rintro e2 w2 ⟨rfl, hA3⟩
  have HA3 := Lib.hid hA3
  clear hA3
  go_wp2_with fail
  go_ret
  have h := HA3.out
  rw [partP_len] at h
  exact ⟨_, rfl, h⟩
end Go.Proofs.Ytdlojbabnelbdaa

/-
  Contract of impl.moveRegister.
-/
namespace Go.Proofs.Ytdlojbabnelbdaa
open Go.RowKit

def tgtTo (ts : List Int) (k : Nat) : List R4 := (List.range k).map fun j => ⟨0, ts.getD j 0, if j + 1 = ts.length then 0 else (j : Int) + 2, 0⟩
def moveL (a : Int) (ts : List Int) : List R4 := ⟨1, a, if ts.length = 0 then 0 else 1, (ts.length : Int) + 1⟩ :: tgtTo ts ts.length
theorem tgtTo_len (ts : List Int) (k : Nat) : (tgtTo ts k).length = k := by simp [tgtTo]
theorem moveL_len (a : Int) (ts : List Int) : (moveL a ts).length = ts.length + 1 := by simp [moveL, tgtTo_len]
theorem tgtTo_next (ts : List Int) (k : Nat) : tgtTo ts (k + 1) = tgtTo ts k ++ [⟨0, ts.getD k 0, if k + 1 = ts.length then 0 else (k : Int) + 2, 0⟩] := by simp [tgtTo, List.range_succ]
theorem moveL_ok (a : Int) (ts : List Int) (h : ts.length ≤ 24) : ∀ x ∈ moveL a ts, 0 ≤ x.c ∧ x.c ≤ 400 ∧ 0 ≤ x.d ∧ x.d ≤ 400 := by
  intro x hx
  rcases List.mem_cons.1 hx with rfl | hx
  · dsimp only
    split <;> omega
  · unfold tgtTo at hx
    rw [List.mem_map] at hx
    obtain ⟨j, hj, rfl⟩ := hx
    have := List.mem_range.1 hj
    dsimp only
    split <;> omega
set_option maxRecDepth 100000 in
set_option maxHeartbeats 4000000 in
theorem moveRegister_any (a : Int) (T : Option Addr) (n k : Nat) (ts : List Int) (w : World) (ht : SI w T n ts) (hn : n ≤ 24) :
    Calls Try.prog 98 #[.int .i64 a, .slice T n k] w (NewQ w (moveL a ts)) := by
  have HL : Hid (ts.length = n) := Lib.hid ht.len
  have HT := Lib.hid ht
  obtain ⟨V, hV⟩ : ∃ V, V = w.alloc (.cells #[.slice none 0 0] 129) := ⟨_, rfl⟩
  have hA : Asm w w.heap.size [] V := by rw [hV]; exact Asm.start w
  have HV := Lib.hid hV
  have HA := Lib.hid hA
  clear hV hA ht
  by_cases h0 : n = 0
  · subst h0
    have HD := Lib.hid (dec_any w V w.heap.size [] a 0 1 HA.out (by simp))
    have HE : Hid (moveL a ts = [] ++ [⟨1, a, 0, 1⟩]) := Lib.hid (by
      have h := List.eq_nil_of_length_eq_zero HL.out
      subst h; rfl)
    go_enter Try.func98, Try.ntmps98
    go_upto_region 2 with fail
    rw [← HV.out]
    clear HV
    go_wp2_with fail
    refine HD.out.mono ?_
    rintro e1 w1 ⟨rfl, hA1⟩
    obtain ⟨A, c, k0, hg, o1, z1⟩ := hA1.cell
    have HN : Hid (NewQ w (moveL a ts) (.returned (.slice A ([] ++ [(⟨1, a, 0, 1⟩ : R4)]).length c)) w1) := Lib.hid (by rw [HE.out]; exact ⟨A, c, rfl, o1, z1⟩)
    clear hA1 o1 z1 HE
    go_wp2_with fail
    go_ret
    exact HN.out
  have HD := Lib.hid (dec_any w V w.heap.size [] a 1 ((n : Int) + 1) HA.out (by simp))
  have HE : Hid ([] ++ [(⟨1, a, 1, (n : Int) + 1⟩ : R4)] = ⟨1, a, if ts.length = 0 then 0 else 1, (ts.length : Int) + 1⟩ :: tgtTo ts 0) := Lib.hid (by
    rw [if_neg (by rw [HL.out]; exact h0), HL.out]; rfl)
  have i0 : ((n : Int) == 0) = false := by simpa using h0
  go_enter Try.func98, Try.ntmps98
  go_upto_region 2 with fail
  rw [← HV.out]
  clear HV
  go_wp2_with (first
    | (go_at_call 183; refine (sizeI_any _ _ _ _ (by omega)).mono ?_; rintro e w' ⟨rfl, rfl⟩)
    | (go_at_call 81; refine HD.out.mono ?_; rintro e1 w1 ⟨rfl, hA1⟩; clear HD; have HA1 := Lib.hid hA1; clear hA1))
  rw [HE.out] at HA1
  clear HE HA i0
  go_loopw [28] (fun i wr => ∃ j : Nat, j ≤ n ∧ i = .int .i64 (j : Int) ∧ Hid (Asm w w.heap.size (⟨1, a, if ts.length = 0 then 0 else 1, (ts.length : Int) + 1⟩ :: tgtTo ts j) wr)) (fun i _ => n - (intOf i).toNat)
  case atStart => exact ⟨0, by omega, rfl, HA1⟩
  case round =>
    obtain ⟨j, hj, rfl, HB⟩ := hrel
    clear HA1
    by_cases hlt : j < n
    rotate_left
    · have i1 : ¬ (j : Int) < (n : Int) := by omega
      obtain ⟨A, c, k0, hg, o1, z1⟩ := HB.out.cell
      have HN : Hid (NewQ w (moveL a ts) (.returned (.slice A ((⟨1, a, if ts.length = 0 then 0 else 1, (ts.length : Int) + 1⟩ : R4) :: tgtTo ts j).length c)) wr) := Lib.hid (by
        obtain rfl : j = ts.length := by rw [HL.out]; omega
        exact ⟨A, c, rfl, o1, z1⟩)
      clear o1 z1
      generalize ((⟨1, a, if ts.length = 0 then 0 else 1, (ts.length : Int) + 1⟩ : R4) :: tgtTo ts j).length = N at *
      go_wp2_with fail
      go_ret
      exact HN.out
    have i0 : (0 : Int) ≤ (j : Int) := by omega
    have i1 : (j : Int) < (n : Int) := by omega
    obtain ⟨b, off, rfl, hb, hc⟩ := (HT.out.below HB.out.2.1).at_ hlt
    obtain ⟨y, hy⟩ : ∃ y, y = ts[j]'(by rw [HL.out]; exact hlt) := ⟨_, rfl⟩
    rw [← hy] at hc
    have HY : Hid (ts.getD j 0 = y) := Lib.hid (by rw [hy, List.getD_eq_getElem?_getD, List.getElem?_eq_getElem]; rfl)
    clear hy
    have hlen : (⟨1, a, if ts.length = 0 then 0 else 1, (ts.length : Int) + 1⟩ :: tgtTo ts j : List R4).length ≤ 1000 := by rw [List.length_cons, tgtTo_len]; omega
    by_cases hlast : j + 1 = n
    · have q1 : ((j : Int) == (n : Int) - 1) = true := by simp; omega
      have HI := Lib.hid (inc_any w wr w.heap.size _ y 0 HB.out hlen)
      have HX : Hid ((⟨1, a, if ts.length = 0 then 0 else 1, (ts.length : Int) + 1⟩ :: tgtTo ts j : List R4) ++ [⟨0, y, 0, 0⟩] = ⟨1, a, if ts.length = 0 then 0 else 1, (ts.length : Int) + 1⟩ :: tgtTo ts (j + 1)) := Lib.hid (by
        rw [tgtTo_next, HY.out, (if_pos (by rw [HL.out]; exact hlast) : (if j + 1 = ts.length then (0 : Int) else (j : Int) + 2) = 0)]; rfl)
      rw [HX.out] at HI
      go_wp2_with fail
      refine HI.out.mono ?_
      rintro e2 w2 ⟨rfl, hA2⟩
      have HA2 := Lib.hid hA2
      clear hA2
      go_wp2_with fail
      go_roundw
      case rel => exact ⟨j + 1, by omega, by go_num, HA2⟩
      case measure => simp [intOf]; omega
    · have q1 : ((j : Int) == (n : Int) - 1) = false := by simp; omega
      have HI := Lib.hid (inc_any w wr w.heap.size _ y ((j : Int) + 2) HB.out hlen)
      have HX : Hid ((⟨1, a, if ts.length = 0 then 0 else 1, (ts.length : Int) + 1⟩ :: tgtTo ts j : List R4) ++ [⟨0, y, (j : Int) + 2, 0⟩] = ⟨1, a, if ts.length = 0 then 0 else 1, (ts.length : Int) + 1⟩ :: tgtTo ts (j + 1)) := Lib.hid (by
        rw [tgtTo_next, HY.out, (if_neg (by rw [HL.out]; exact hlast) : (if j + 1 = ts.length then (0 : Int) else (j : Int) + 2) = (j : Int) + 2)]; rfl)
      rw [HX.out] at HI
      go_wp2_with fail
      refine HI.out.mono ?_
      rintro e2 w2 ⟨rfl, hA2⟩
      have HA2 := Lib.hid hA2
      clear hA2
      go_wp2_with fail
      go_roundw
      case rel => exact ⟨j + 1, by omega, by go_num, HA2⟩
      case measure => simp [intOf]; omega
end Go.Proofs.Ytdlojbabnelbdaa

/-
  Contracts of slices.Grow (from nil), slices.Concat, impl.joined; slices.Index, Contains, Max over []int64.
-/
namespace Go.Proofs.Ytdlojbabnelbdaa
open Go.RowKit

/-- An empty slice with room, in new memory. -/
def Room (w : World) (e : Ending) (w' : World) : Prop := ∃ A c, e = .returned (.slice A 0 c) ∧ Own w' w.heap.size 2 1 A 0 c [] ∧ Below w.heap.size w w'

theorem zeroCells_size (z : Array Value) (n : Nat) : (Builtin.zeroCells z n).size = n * z.size := by simp [Builtin.zeroCells]

set_option maxRecDepth 100000 in
set_option maxHeartbeats 1000000 in
theorem growI_any (n : Nat) (w : World) (hn : n ≤ 1048576) : Calls Try.prog 318 #[.slice none 0 0, .int .i64 (n : Int)] w (Room w) := by
  rcases Nat.eq_zero_or_pos n with h | h
  · subst h
    go_enter Try.func318, Try.ntmps318
    go_wp2_with fail
    go_ret
    exact ⟨none, 0, rfl, Own.nil, Below.refl _ _⟩
  · obtain ⟨i, hi, hz, hs, hb⟩ := info_parts elI.info
    have hlaw := Lib.run_append_nil_zeros (P := Try.prog) w 25 3 25 2 i _ .i64 .i64 Try.underlying25 Try.underlying3 hi hz n h (by omega) (by omega) (by rw [hb]; omega)
    have hc1 := grownCap_ge w n 0 2
    have hc2 := grownCap_le_maxLen w n 0 2 (by simp only [maxLen]; omega)
    generalize grownCap w n 0 2 = c at *
    have o1 : Own (w.drew.alloc (.cells (Builtin.zeroCells (Value.int .i64 0).cells n ++ Builtin.zeroCells (Value.int .i64 0).cells (c - n)) 2)) w.heap.size 2 1 (some ⟨w.heap.size, 0, none⟩) 0 c [] := by
      refine ⟨rfl, .inr ⟨w.heap.size, 0, _, rfl, Nat.le_refl _, heap_alloc_new w.drew _, Nat.zero_le _, hc2, ?_, fun k hk => by simp at hk⟩⟩
      simp only [Array.size_append, zeroCells_size]
      have : (Value.int .i64 0).cells.size = 1 := rfl
      rw [this]; omega
    have z1 : Below w.heap.size w (w.drew.alloc (.cells (Builtin.zeroCells (Value.int .i64 0).cells n ++ Builtin.zeroCells (Value.int .i64 0).cells (c - n)) 2)) := (below_drewN (Below.refl _ _) 1).alloc (Nat.le_refl _) _
    generalize w.drew.alloc (.cells (Builtin.zeroCells (Value.int .i64 0).cells n ++ Builtin.zeroCells (Value.int .i64 0).cells (c - n)) 2) = W at *
    have HLAW := Lib.hid hlaw
    clear hlaw hi hz hs hb
    go_enter Try.func318, Try.ntmps318
    go_wp2_with (at_builtin; go_loud (refine Lib.wpList_append_run _ rfl (.tmp 20) (.tmp 21) _ _ rfl _ _ rfl rfl _ _ HLAW.out ?_))
    go_ret
    exact ⟨_, c, rfl, o1, z1⟩

/-- The first k rows, one behind the other. -/
def catTo (ts : List Sl) (k : Nat) : List Int := (ts.take k).flatMap Sl.xs
theorem catTo_zero (ts : List Sl) : catTo ts 0 = [] := by simp [catTo]
theorem catTo_next {ts : List Sl} {t : Sl} {k : Nat} (h : ts[k]? = some t) : catTo ts (k + 1) = catTo ts k ++ t.xs := by
  obtain ⟨hk, rfl⟩ := List.getElem?_eq_some_iff.1 h
  unfold catTo
  rw [List.take_succ_eq_append_getElem hk, List.flatMap_append]
  simp
theorem catTo_end {ts : List Sl} {k : Nat} (h : ts.length ≤ k) : catTo ts k = ts.flatMap Sl.xs := by unfold catTo; rw [List.take_of_length_le h]
theorem catTo_le (ts : List Sl) (k : Nat) : (catTo ts k).length ≤ (ts.flatMap Sl.xs).length := by
  have : ts.flatMap Sl.xs = catTo ts k ++ (ts.drop k).flatMap Sl.xs := by
    unfold catTo
    rw [← List.flatMap_append, List.take_append_drop]
  rw [this, List.length_append]; omega

set_option maxHeartbeats 4000000 in
theorem concatI_any (B : Option Addr) (m c : Nat) (ts : List Sl) (w : World) (hx : SII w B m ts) (hm : m ≤ 1048576) (ht : (ts.flatMap Sl.xs).length ≤ 1048576) :
    Calls Try.prog 301 #[.slice B m c] w (NewI w (ts.flatMap Sl.xs)) := by
  have HLE := Lib.hid (fun k => Nat.le_trans (catTo_le ts k) ht)
  have HEND : Hid (ts.flatMap Sl.xs = catTo ts m) := Lib.hid (catTo_end (by rw [hx.len]; exact Nat.le_refl _)).symm
  clear ht
  go_enter Try.func301, Try.ntmps301
  go_wp2_with fail
  go_loop [3, 11] (fun s i => ∃ k : Nat, k ≤ m ∧ i = .int .i64 (k : Int) ∧ s = .int .i64 ((catTo ts k).length : Int)) (fun _ i => m - (intOf i).toNat)
  case atStart => exact ⟨0, Nat.zero_le _, rfl, by simp [catTo_zero]⟩
  case round =>
    obtain ⟨k, hk, rfl, rfl⟩ := hrel
    by_cases hlt : k < m
    · obtain ⟨t, bb, off, HT, htm, rfl, hbl, e0, hrow⟩ := hx.pick hlt
      have HN : Hid ((catTo ts (k + 1)).length = (catTo ts k).length + t.xs.length) := Lib.hid (by rw [catTo_next HT.out]; simp)
      have hle := HLE.out (k + 1)
      rw [HN.out] at hle
      have i1 : (0 : Int) ≤ (k : Int) := by omega
      have i2 : (k : Int) < (m : Int) := by omega
      have i3 : ¬ (((catTo ts k).length : Int) + (t.xs.length : Int) < 0) := by omega
      clear hrow htm
      go_wp2_with fail
      go_round
      case rel => exact ⟨k + 1, by omega, by go_num, by rw [HN.out]; go_num⟩
      case measure => simp [intOf]; omega
    · obtain rfl : k = m := by omega
      have hle := HLE.out k
      have HEND' : Hid ((catTo ts k).length = (ts.flatMap Sl.xs).length) := Lib.hid (by rw [HEND.out])
      go_wp2_with fail
      refine (growI_any (catTo ts k).length w hle).mono ?_
      rintro e W1 ⟨A1, c1, rfl, o1, z1⟩
      go_wp2_with fail
      go_loopw [6, 27] (fun v i wr => ∃ (j : Nat) (D : Option Addr) (cd : Nat), j ≤ k ∧ i = .int .i64 (j : Int) ∧ v = .slice D (catTo ts j).length cd ∧ Own wr w.heap.size 2 1 D (catTo ts j).length cd (ints (catTo ts j)) ∧ Below w.heap.size w wr) (fun _ i _ => k - (intOf i).toNat)
      case atStart => exact ⟨0, A1, c1, Nat.zero_le _, rfl, by simp [catTo_zero], by rw [catTo_zero]; exact o1, z1⟩
      case round =>
        obtain ⟨j, D, cd, hj, rfl, rfl, ho, hz⟩ := hrel
        clear o1 z1
        by_cases hjl : j < k
        · obtain ⟨t, bb, off, HT, htm, rfl, hbl, e0, hrow⟩ := (hx.below hz).pick hjl
          have HN := Lib.hid (catTo_next HT.out)
          have hle2 : (catTo ts j).length + t.xs.length ≤ 1048576 := by have := HLE.out (j + 1); rw [HN.out, List.length_append] at this; exact this
          have i1 : (0 : Int) ≤ (j : Int) := by omega
          have i2 : (j : Int) < (k : Int) := by omega
          go_wp2_with (at_builtin; refine wpList_append_Own rfl (.tmp 31) (.tmp 32) rfl elI (lo := w.heap.size) rfl ho rfl hrow (ints_one t.xs) (by omega) (by simp only [maxLen]; omega) hz.size ?_; intro A2 c2 w2 ho2 hg2 _)
          have hz2 := ho.below_of hz hg2 hz.size
          have ho3 : Own w2 w.heap.size 2 1 A2 (catTo ts (j + 1)).length c2 (ints (catTo ts (j + 1))) := by
            rw [HN.out, List.length_append]
            have e : ints (catTo ts j ++ t.xs) = ints (catTo ts j) ++ ints t.xs := by simp [ints]
            rw [e]; exact ho2
          have HL : Hid ((catTo ts j).length + t.xs.length = (catTo ts (j + 1)).length) := Lib.hid (by rw [HN.out, List.length_append])
          clear ho2
          go_wp2_with fail
          go_roundw
          case rel => exact ⟨j + 1, A2, c2, by omega, by go_num, by rw [← HL.out], ho3, hz2⟩
          case measure => simp [intOf]; omega
        · obtain rfl : j = k := by omega
          go_wp2_with fail
          go_ret
          rw [HEND.out]
          exact ⟨D, cd, rfl, ho, hz⟩

theorem joinedI_any (B : Option Addr) (m c : Nat) (ts : List Sl) (w : World) (hx : SII w B m ts) (hm : m ≤ 1048576) (ht : (ts.flatMap Sl.xs).length ≤ 1048576) :
    Calls Try.prog 281 #[.slice B m c] w (NewI w (ts.flatMap Sl.xs)) := by
  have HC := Lib.hid (concatI_any B m c ts w hx hm ht)
  clear hx ht
  generalize ts.flatMap Sl.xs = ys at *
  go_enter Try.func281, Try.ntmps281
  go_wp2_with fail
  refine HC.out.mono ?_
  rintro e W1 ⟨A1, c1, rfl, o1, z1⟩
  go_wp2_with fail
  go_ret
  exact ⟨A1, c1, rfl, o1, z1⟩

/-- Where a number stands first, or -1. -/
def idxI (xs : List Int) (v : Int) : Int := if v ∈ xs then ((xs.idxOf v : Nat) : Int) else -1
theorem idxI_at {xs : List Int} {v : Int} {k : Nat} (hk : xs[k]? = some v) (h : v ∉ xs.take k) : idxI xs v = (k : Int) := by
  obtain ⟨hl, he⟩ := List.getElem?_eq_some_iff.1 hk
  have hm : v ∈ xs := List.mem_of_getElem? hk
  unfold idxI
  rw [if_pos hm]
  have e : xs = xs.take k ++ v :: xs.drop (k + 1) := by rw [← he, ← List.drop_eq_getElem_cons hl, List.take_append_drop]
  have h2 : xs.idxOf v = k := by
    rw [e, List.idxOf_append, if_neg h]
    simp
    omega
  rw [h2]
theorem idxI_no {xs : List Int} {v : Int} (h : v ∉ xs) : idxI xs v = -1 := by unfold idxI; rw [if_neg h]
theorem idxI_ge {xs : List Int} {v : Int} : decide (0 ≤ idxI xs v) = decide (v ∈ xs) := by
  unfold idxI
  by_cases h : v ∈ xs
  · rw [if_pos h]; simp [h]
  · rw [if_neg h]; simp [h]

/-- What slices.Max says. -/
def maxI : List Int → Int
  | [] => 0
  | x :: r => r.foldl max x
theorem maxI_take {xs : List Int} {x : Int} {k : Nat} (h0 : 0 < k) (h : xs[k]? = some x) : maxI (xs.take (k + 1)) = max (maxI (xs.take k)) x := by
  obtain ⟨hl, he⟩ := List.getElem?_eq_some_iff.1 h
  rw [List.take_succ_eq_append_getElem hl, he]
  cases hx : xs.take k with
  | nil =>
    have h2 : (xs.take k).length = 0 := by rw [hx]; rfl
    rw [List.length_take] at h2
    omega
  | cons y r => simp [maxI]

end Go.Proofs.Ytdlojbabnelbdaa

/-
  Sorting few numbers: contracts of cmp.Less, insertionSort, pdqsort and slices.Sort, up to 12 elements.
-/
namespace Go.Proofs.Ytdlojbabnelbdaa
open Go.RowKit

/-- Two neighbours are exchanged. -/
def swapI (xs : List Int) (j : Nat) : List Int := (xs.set j (xs.getD (j - 1) 0)).set (j - 1) (xs.getD j 0)
/-- An element goes down to its place. -/
def sinkI (xs : List Int) : Nat → List Int
  | 0 => xs
  | j + 1 => if xs.getD (j + 1) 0 < xs.getD j 0 then sinkI (swapI xs (j + 1)) j else xs
/-- The first elements are sorted by insertion. -/
def insTo (xs : List Int) : Nat → List Int
  | 0 => xs
  | 1 => xs
  | k + 2 => sinkI (insTo xs (k + 1)) (k + 1)
theorem swapI_len (xs : List Int) (j : Nat) : (swapI xs j).length = xs.length := by simp [swapI]
theorem sinkI_len : ∀ (j : Nat) (xs : List Int), (sinkI xs j).length = xs.length
  | 0, _ => rfl
  | j + 1, xs => by
    unfold sinkI
    split
    · rw [sinkI_len j, swapI_len]
    · rfl
theorem insTo_len (xs : List Int) : ∀ k, (insTo xs k).length = xs.length
  | 0 => rfl
  | 1 => rfl
  | k + 2 => by rw [insTo, sinkI_len, insTo_len xs (k + 1)]
set_option maxHeartbeats 1000000 in
theorem cmpLess_any (a b : Int) (w : World) : Calls Try.prog 313 #[.int .i64 a, .int .i64 b] w fun e w' => e = .returned (.bool (decide (a < b))) ∧ w = w' := by
  go_enter Try.func313, Try.ntmps313
  go_wp2
  all_goals go_ret
  all_goals exact ⟨rfl, rfl⟩
theorem sinkI_zero (xs : List Int) : sinkI xs 0 = xs := rfl
theorem sinkI_yes {xs : List Int} {j : Nat} (h : xs.getD (j + 1) 0 < xs.getD j 0) : sinkI xs (j + 1) = sinkI (swapI xs (j + 1)) j := by rw [sinkI, if_pos h]
theorem sinkI_no {xs : List Int} {j : Nat} (h : ¬ xs.getD (j + 1) 0 < xs.getD j 0) : sinkI xs (j + 1) = xs := by rw [sinkI, if_neg h]
def Ret0 (P : World → Prop) (e : Ending) (w' : World) : Prop := (∃ u, e = .returned u) ∧ P w'
/-- A slice of the call's own holds these numbers. -/
def Holds0 (w0 : World) (A : Option Addr) (n c : Nat) (xs : List Int) (W : World) : Prop := Own W w0.heap.size 2 1 A n c (ints xs) ∧ Below w0.heap.size w0 W
set_option maxRecDepth 100000 in
set_option maxHeartbeats 4000000 in
theorem insertionSort_any (w0 w : World) (A : Option Addr) (n c : Nat) (xs : List Int) (h : Holds0 w0 A n c xs w) (hn : n ≤ 1000) :
    Calls Try.prog 307 #[.slice A n c, .int .i64 0, .int .i64 (n : Int)] w (Ret0 (Holds0 w0 A n c (insTo xs n))) := by
  have HL : Hid (xs.length = n) := Lib.hid (by have := h.1.len; rw [length_ints] at this; omega)
  have HH := Lib.hid h
  clear h
  go_enter Try.func307, Try.ntmps307
  go_wp2_with fail
  go_loopw [6] (fun i wr => ∃ k : Nat, (k ≤ n ∨ k = 1) ∧ 1 ≤ k ∧ i = .int .i64 (k : Int) ∧ Hid (Holds0 w0 A n c (insTo xs k) wr)) (fun i _ => n - (intOf i).toNat)
  case atStart => exact ⟨1, .inr rfl, by omega, rfl, HH⟩
  case round =>
    obtain ⟨k, hk, hk1, rfl, HK⟩ := hrel
    clear HH
    by_cases hlt : k < n
    rotate_left
    · have i1 : ¬ (k : Int) < (n : Int) := by omega
      have HE : Hid (Holds0 w0 A n c (insTo xs n) wr) := Lib.hid (by
        rcases hk with h | h
        · rw [show n = k by omega]; have h2 := HK.out; rw [show n = k by omega] at h2; exact h2
        · have h2 := HK.out
          rw [h] at h2
          have e : insTo xs n = insTo xs 1 := by
            match n, (show n ≤ 1 by omega) with
            | 0, _ => rfl
            | 1, _ => rfl
          rw [e]; exact h2)
      go_wp2_with fail
      go_end0
      exact ⟨⟨_, rfl⟩, HE.out⟩
    have i1 : (k : Int) < (n : Int) := by omega
    obtain ⟨zs0, hz0⟩ : ∃ zs0, zs0 = insTo xs k := ⟨_, rfl⟩
    have HIN : Hid (sinkI zs0 k = insTo xs (k + 1)) := Lib.hid (by
      obtain ⟨j, rfl⟩ : ∃ j, k = j + 1 := ⟨k - 1, by omega⟩
      rw [hz0]; rfl)
    have HZL : Hid (zs0.length = n) := Lib.hid (by rw [hz0, insTo_len]; exact HL.out)
    rw [← hz0] at HK
    clear hz0
    rename World => wk
    go_wp2_with fail
    go_loopw [7] (fun i wr => ∃ (j : Nat) (zs : List Int), j ≤ k ∧ i = .int .i64 (j : Int) ∧ Hid (sinkI zs j = insTo xs (k + 1)) ∧ Hid (zs.length = n) ∧ Hid (Holds0 w0 A n c zs wr)) (fun i _ => (intOf i).toNat)
    case atStart => exact ⟨k, zs0, by omega, rfl, HIN, HZL, HK⟩
    case round =>
      obtain ⟨j, zs, hj, rfl, HS, HZ, HW⟩ := hrel
      clear HK HIN HZL
      cases j with
      | zero =>
        have i2 : ¬ (0 : Int) < ((0 : Nat) : Int) := by omega
        have i3 : decide ((0 : Int) < ((0 : Nat) : Int)) = false := by simp
        have HE : Hid (Holds0 w0 A n c (insTo xs (k + 1)) wr) := Lib.hid (by rw [← HS.out]; exact HW.out)
        go_wp2_with fail
        go_quiet (fail)
        go_wp2_with fail
        exact ⟨⟨k + 1, by omega, by omega, by go_num, Lib.hid ⟨HE.out.1.drewN _, below_drewN HE.out.2 _⟩⟩, by simp [intOf]; omega⟩
      | succ j =>
        obtain ⟨b, off, rfl, hb0, hb1, x0, y0⟩ := HW.out.1.at_ (k := j) (by rw [length_ints, HZ.out]; omega)
        obtain ⟨b', off', e1, _, _, x1, y1⟩ := HW.out.1.at_ (k := j + 1) (by rw [length_ints, HZ.out]; omega)
        simp only [Option.some.injEq, Addr.mk.injEq, and_true] at e1
        obtain ⟨rfl, rfl⟩ := e1
        rw [ints_get] at x0 x1
        have HU : Hid (zs.getD j 0 = zs[j]'(by rw [HZ.out]; omega)) := Lib.hid (by rw [List.getD_eq_getElem?_getD, List.getElem?_eq_getElem]; rfl)
        have HV : Hid (zs.getD (j + 1) 0 = zs[j + 1]'(by rw [HZ.out]; omega)) := Lib.hid (by rw [List.getD_eq_getElem?_getD, List.getElem?_eq_getElem]; rfl)
        obtain ⟨ya, hya⟩ : ∃ y, y = zs.getD j 0 := ⟨_, rfl⟩
        obtain ⟨yb, hyb⟩ : ∃ y, y = zs.getD (j + 1) 0 := ⟨_, rfl⟩
        rw [← HU.out, ← hya] at x0
        rw [← HV.out, ← hyb] at x1
        have HYA := Lib.hid hya
        have HYB := Lib.hid hyb
        clear hya hyb HU HV
        have i2 : (0 : Int) < ((j + 1 : Nat) : Int) := by omega
        have v1 : IntKind.i64.wrap (((j + 1 : Nat) : Int) - 1) = (j : Int) := by rw [show ((j + 1 : Nat) : Int) - 1 = (j : Int) by omega]; exact IntWalk.i64_in _ (by omega)
        have v2 : (0 : Int) ≤ ((j + 1 : Nat) : Int) := by omega
        have v3 : ((j + 1 : Nat) : Int) < (n : Int) := by omega
        have v4 : (0 : Int) ≤ (j : Int) := by omega
        have v5 : (j : Int) < (n : Int) := by omega
        by_cases hlt2 : yb < ya
        · have d1 : decide (yb < ya) = true := by simpa using hlt2
          have HZS : Hid (sinkI (swapI zs (j + 1)) j = insTo xs (k + 1)) := Lib.hid (by rw [← HS.out, sinkI_yes (by rw [← HYA.out, ← HYB.out]; exact hlt2)])
          have o2 := (HW.out.1.set_ (k := j + 1) (by rw [length_ints, HZ.out]; omega) (.int .i64 ya)).set_ (k := j) (by rw [List.length_set, length_ints, HZ.out]; omega) (.int .i64 yb)
          rw [ints_set, ints_set, show (zs.set (j + 1) ya).set j yb = swapI zs (j + 1) by unfold swapI; rw [Nat.add_sub_cancel, ← HYA.out, ← HYB.out]] at o2
          have HO2 := Lib.hid o2
          have HZ2 := Lib.hid ((HW.out.2.setCell (p := ⟨b, off + (j + 1), none⟩) hb0 (.int .i64 ya)).setCell (p := ⟨b, off + j, none⟩) hb0 (.int .i64 yb))
          clear o2
          go_wp2_with fail
          go_quiet ((go_at_call 313; exact quiet_left (cmpLess_any _ _ _)))
          go_wp2_with fail
          go_region
          all_goals
            go_wp2_with fail
            exact ⟨⟨j, swapI zs (j + 1), by omega, rfl, HZS, Lib.hid (by rw [swapI_len]; exact HZ.out), Lib.hid ⟨HO2.out.drewN _, below_drewN HZ2.out _⟩⟩, by simp [intOf]⟩
        · have d1 : decide (yb < ya) = false := by simpa using hlt2
          have HE : Hid (Holds0 w0 (some ⟨b, off, none⟩) n c (insTo xs (k + 1)) wr) := Lib.hid (by rw [← HS.out, sinkI_no (by rw [← HYA.out, ← HYB.out]; exact hlt2)]; exact HW.out)
          go_wp2_with fail
          go_quiet ((go_at_call 313; exact quiet_left (cmpLess_any _ _ _)))
          go_wp2_with fail
          exact ⟨⟨k + 1, by omega, by omega, by go_num, Lib.hid ⟨HE.out.1.drewN _, below_drewN HE.out.2 _⟩⟩, by simp [intOf]; omega⟩
set_option maxHeartbeats 1000000 in
theorem pdqsort_few (w0 w : World) (A : Option Addr) (n c : Nat) (l : Int) (xs : List Int) (h : Holds0 w0 A n c xs w) (hn : n ≤ 12) :
    Calls Try.prog 292 #[.slice A n c, .int .i64 0, .int .i64 (n : Int), .int .i64 l] w (Ret0 (Holds0 w0 A n c (insTo xs n))) := by
  have HI := Lib.hid (insertionSort_any w0 w A n c xs h (by omega))
  have i1 : (n : Int) ≤ 12 := by omega
  clear h
  go_enter Try.func292, Try.ntmps292
  go_wp2_with fail
  go_loopw [1, 2] (fun i m wr => i = .int .i64 0 ∧ m = .int .i64 (n : Int) ∧ wr = w) (fun _ _ _ => 0)
  case atStart => exact ⟨rfl, rfl, rfl⟩
  case round =>
    obtain ⟨rfl, rfl, rfl⟩ := hrel
    go_wp2_with fail
    refine HI.out.mono ?_
    rintro e w1 ⟨⟨u, rfl⟩, hF⟩
    have HF := Lib.hid hF
    clear hF
    go_wp2_with fail
    go_end0
    exact ⟨⟨_, rfl⟩, HF.out⟩
set_option maxRecDepth 100000 in
set_option maxHeartbeats 2000000 in
theorem bitsLen64_few (n : Nat) (hn : n ≤ 3) (w : World) : Calls Try.prog 317 #[.int .u64 (n : Int)] w fun e w' => (∃ l : Int, e = .returned (.int .i64 l)) ∧ w = w' := by
  match n, hn with
  | 0, _ => go_enter Try.func317, Try.ntmps317
            go_wp2
            go_ret
            exact ⟨⟨_, rfl⟩, rfl⟩
  | 1, _ => go_enter Try.func317, Try.ntmps317
            go_wp2
            go_ret
            exact ⟨⟨_, rfl⟩, rfl⟩
  | 2, _ => go_enter Try.func317, Try.ntmps317
            go_wp2
            go_ret
            exact ⟨⟨_, rfl⟩, rfl⟩
  | 3, _ => go_enter Try.func317, Try.ntmps317
            go_wp2
            go_ret
            exact ⟨⟨_, rfl⟩, rfl⟩
set_option maxHeartbeats 2000000 in
theorem bitsLen_few (n : Nat) (hn : n ≤ 3) (w : World) : Calls Try.prog 293 #[.int .u64 (n : Int)] w fun e w' => (∃ l : Int, e = .returned (.int .i64 l)) ∧ w = w' := by
  go_enter Try.func293, Try.ntmps293
  go_wp2_with (go_at_call 317; refine (bitsLen64_few n hn _).mono ?_; rintro e w' ⟨⟨l, rfl⟩, rfl⟩)
  go_ret
  exact ⟨⟨_, rfl⟩, rfl⟩
set_option maxHeartbeats 2000000 in
theorem sort_few (w0 w : World) (A : Option Addr) (n c : Nat) (xs : List Int) (h : Holds0 w0 A n c xs w) (hn : n ≤ 3) :
    Calls Try.prog 252 #[.slice A n c] w (Ret0 (Holds0 w0 A n c (insTo xs n))) := by
  have HH := Lib.hid h
  clear h
  go_enter Try.func252, Try.ntmps252
  go_wp2_with (go_at_call 293; refine (bitsLen_few n hn _).mono ?_; rintro e w' ⟨⟨l, rfl⟩, rfl⟩)
  refine (pdqsort_few w0 _ A n c l xs HH.out (by omega)).mono ?_
  rintro e w1 ⟨⟨u, rfl⟩, hF⟩
  have HF := Lib.hid hF
  clear hF
  go_wp2_with fail
  go_end0
  exact ⟨⟨_, rfl⟩, HF.out⟩
set_option maxHeartbeats 2000000 in
theorem sortList_few (A : Option Addr) (n c : Nat) (xs : List Int) (w : World) (hx : SI w A n xs) (hn : n ≤ 3) :
    Calls Try.prog 181 #[.slice A n c] w (NewI w (insTo xs n)) := by
  have HL : Hid (xs.length = n) := Lib.hid hx.len
  go_enter Try.func181, Try.ntmps181
  go_wp2_with fail
  refine (cloneI_any _ _ _ xs _ hx (by omega)).mono ?_
  rintro e w1 ⟨D, d, rfl, o1, z1⟩
  have HS := Lib.hid (sort_few w w1 D xs.length d xs ⟨o1, z1⟩ (by rw [HL.out]; exact hn))
  clear o1 z1
  go_wp2_with fail
  refine HS.out.mono ?_
  rintro e w2 ⟨⟨u, rfl⟩, hF⟩
  have HN : Hid (NewI w (insTo xs n) (.returned (.slice D xs.length d)) w2) := Lib.hid ⟨D, d, by rw [insTo_len], by rw [insTo_len]; have h := hF.1; rw [HL.out] at h; rw [HL.out]; exact h, hF.2⟩
  clear hF
  go_wp2_with fail
  go_ret
  exact HN.out
end Go.Proofs.Ytdlojbabnelbdaa

/-
  Contracts of impl's small functions that the tag systems use.
-/
namespace Go.Proofs.Ytdlojbabnelbdaa
open Go.RowKit

theorem sizeII_any (A : Option Addr) (n c : Nat) (w : World) (_h : n ≤ 9223372036854775807) :
    Calls Try.prog 279 #[.slice A n c] w fun e w' => e = .returned (.int .i64 n) ∧ w = w' := by
  go_enter Try.func279, Try.ntmps279
  go_wp2
  go_ret
  exact ⟨rfl, rfl⟩
def tagWordB (xs : List Int) (letters : Int) : Bool := decide (xs.length ≤ 1000) && allIn xs 0 (letters - 1)
def risesB (xs : List Int) : Bool := decide (xs.Pairwise (· < ·))
theorem rises_next {xs : List Int} {k : Nat} (h : (xs.take k).Pairwise (· < ·)) (h0 : 1 ≤ k) (hk : k < xs.length) (hlt : xs[k - 1] < xs[k]) : (xs.take (k + 1)).Pairwise (· < ·) := by
  rw [List.take_succ_eq_append_getElem hk, List.pairwise_append]
  refine ⟨h, by simp, fun a ha b hb => ?_⟩
  simp at hb; subst hb
  obtain ⟨j, hj, rfl⟩ := List.getElem_of_mem ha
  simp at hj
  rw [List.getElem_take]
  by_cases hjk : j = k - 1
  · subst hjk; exact hlt
  · have h2 := List.pairwise_iff_getElem.1 h j (k - 1) (by simp; omega) (by simp; omega) (by omega)
    rw [List.getElem_take, List.getElem_take] at h2
    omega
theorem rises_not {xs : List Int} {k : Nat} (h0 : 1 ≤ k) (hk : k < xs.length) (hge : xs[k] ≤ xs[k - 1]) : false = risesB xs := by
  symm; unfold risesB; rw [decide_eq_false_iff_not]; intro h
  have := List.pairwise_iff_getElem.1 h (k - 1) k (by omega) hk (by omega)
  omega
theorem rises_end {xs : List Int} {k n : Nat} (hk : n ≤ k) (hl : xs.length = n) (h : (xs.take k).Pairwise (· < ·)) : true = risesB xs := by
  rw [List.take_of_length_le (by omega)] at h
  symm; unfold risesB; rw [decide_eq_true_iff]; exact h
set_option maxHeartbeats 400000 in
theorem rising_any (A : Option Addr) (n c : Nat) (xs : List Int) (w : World) (hx : SI w A n xs) (hn : n ≤ 9223372036854775800) :
    Calls Try.prog 182 #[.slice A n c] w fun e w' => e = .returned (.bool (risesB xs)) ∧ ∃ q, w' = w.drewN q := by
  go_enter Try.func182, Try.ntmps182
  go_wp2
  go_loopw [3] (fun i wr => ∃ k q : Nat, 1 ≤ k ∧ k ≤ n + 1 ∧ i = .int .i64 k ∧ Hid ((xs.take k).Pairwise (· < ·)) ∧ wr = w.drewN q) (fun i _ => n + 1 - (intOf i).toNat)
  case atStart => exact ⟨1, 0, by omega, by omega, rfl, by rcases xs with _ | ⟨a, r⟩ <;> simp [Hid], rfl⟩
  case round =>
    obtain ⟨k, q, hk1, hk, rfl, he, rfl⟩ := hrel
    by_cases hlt : k < n
    · obtain ⟨b, off, rfl, _, hc⟩ := hx.at_ hlt
      obtain ⟨b', off', he', _, hc'⟩ := hx.at_ (k := k - 1) (by omega)
      simp only [Option.some.injEq, Addr.mk.injEq, and_true] at he'
      obtain ⟨rfl, rfl⟩ := he'
      have i1 : (0 : Int) ≤ (k : Int) - 1 := by omega
      have i2 : ((k : Int) - 1).toNat = k - 1 := by omega
      go_wp2
      go_quiet (fail)
      clear i2
      have HXL := Lib.hid hx.len
      go_wp2
      · go_ret
        exact ⟨ret_bool (rises_not hk1 (by have := HXL.out; omega) (by assumption)), _, World.drewN_drewN _ _ _⟩
      · exact ⟨⟨k + 1, _, by omega, by omega, by go_num, rises_next he.out hk1 (by have := HXL.out; omega) (by omega), rfl⟩, by simp [intOf]; omega⟩
    · go_wp2
      go_ret
      exact ⟨ret_bool (rises_end (by omega) hx.len he.out), _, rfl⟩

set_option maxHeartbeats 400000 in
theorem indexFuncII_any (A : Option Addr) (n c : Nat) (ts : List Sl) (f : FuncId) (cp : Value) (p : List Int → Bool) (w : World) (hx : SII w A n ts) (hn : n ≤ 9223372036854775807) (hcall : ∀ (args : Array Value) (w : World), (callFunc f args).run Try.prog w = .ok (.enter f args) w)
    (hf : Hid (∀ t ∈ ts, Calls Try.prog f #[.slice t.A t.xs.length t.c, cp] w fun e w' => e = .returned (.bool (p t.xs)) ∧ w = w')) :
    Calls Try.prog 305 #[.slice A n c, .func (.func f) #[] #[cp]] w fun e w' => e = .returned (.int .i64 (firstB p (nums ts))) ∧ w = w' := by
  go_enter Try.func305, Try.ntmps305
  go_wp2
  go_loop [8] (fun i => ∃ k : Nat, k ≤ n ∧ i = .int .i64 k ∧ Hid (((nums ts).take k).any p = false)) (fun i => n - (intOf i).toNat)
  case atStart => exact ⟨0, by omega, rfl, rfl⟩
  case round =>
    obtain ⟨k, hk, rfl, he⟩ := hrel
    by_cases hlt : k < n
    · obtain ⟨t, b, off, hT, htm, rfl, _, hc, hr⟩ := hx.pick hlt
      go_wp2_with fail
      refine (hf.out t htm).mono ?_
      rintro e w' ⟨rfl, rfl⟩
      cases hp : p t.xs
      · have HP := Lib.hid hp
        clear hp
        go_wp2
        exact ⟨⟨k + 1, by omega, by go_num, firstB_next hT.out HP.out he.out⟩, by simp [intOf]; omega⟩
      · have HP := Lib.hid hp
        clear hp
        go_wp2
        go_ret
        exact ⟨ret_int (firstB_at hT.out HP.out he.out), rfl⟩
    · go_wp2
      go_ret
      exact ⟨ret_int (firstB_none (by omega) hx.len he.out), rfl⟩

set_option maxHeartbeats 400000 in
theorem containsFuncII_any (A : Option Addr) (n c : Nat) (ts : List Sl) (f : FuncId) (cp : Value) (p : List Int → Bool) (w : World) (hx : SII w A n ts) (hn : n ≤ 9223372036854775807) (hcall : ∀ (args : Array Value) (w : World), (callFunc f args).run Try.prog w = .ok (.enter f args) w)
    (hf : Hid (∀ t ∈ ts, Calls Try.prog f #[.slice t.A t.xs.length t.c, cp] w fun e w' => e = .returned (.bool (p t.xs)) ∧ w = w')) :
    Calls Try.prog 288 #[.slice A n c, .func (.func f) #[] #[cp]] w fun e w' => e = .returned (.bool ((nums ts).any p)) ∧ w = w' := by
  go_enter Try.func288, Try.ntmps288
  go_wp2_with (go_at_call 305; refine (indexFuncII_any _ _ _ ts _ _ p _ hx hn hcall hf).mono ?_; rintro e w' ⟨rfl, rfl⟩)
  go_ret
  exact ⟨ret_bool (firstB_ge p (nums ts)), rfl⟩

def wordsB (xss : List (List Int)) (letters : Int) : Bool := xss.all (fun xs => tagWordB xs letters)
theorem wordsB_not (xss : List (List Int)) (letters : Int) : (!xss.any (fun xs => !tagWordB xs letters)) = wordsB xss letters := by
  unfold wordsB; rw [List.not_any_eq_all_not]; simp

/-- Tag values: the struct as the walk has it. -/
abbrev tagV (d : Int) (A : Option Addr) (n c : Nat) (B : Option Addr) (m k : Nat) : Value := .agg #[.int .i64 d, .slice A n c, .slice B m k]

def validTagB (d : Int) (words : List (List Int)) (halting : List Int) : Bool :=
  inB d 1 4 && inB words.length 1 200 && wordsB words words.length && risesB halting && allIn halting 0 (words.length - 1)

def tagCodeF (d : Int) (words : List (List Int)) (halting xs : List Int) : Int := if validTagB d words halting && tagWordB xs words.length then 0 else 1
def haltsB (d : Int) (halting xs : List Int) : Bool := decide ((xs.length : Int) < d) || decide (xs.headD 0 ∈ halting)
end Go.Proofs.Ytdlojbabnelbdaa
