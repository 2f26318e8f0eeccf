/-
  Contract of spec.TimeTable: it returns what timeTableF says.
-/
import Derived.Test.YthipbeggaeogcaaTimeI
import Derived.Test.YthipbeggaeogcaaRunV
namespace Go.Proofs.Ythipbeggaeogcaa
open Go.RowKit

theorem l20Count_any (a : Int) (h : Bool) (w : World) : Calls Try.prog 162 #[.int .i64 a, .bool h, .int .i64 0] w fun e w' => e = .returned (.int .i64 (if h then a else -1)) ∧ w = w' := by
  cases h
  · go_enter Try.func162, Try.ntmps162
    go_wp2
    go_ret
    exact ⟨rfl, rfl⟩
  · go_enter Try.func162, Try.ntmps162
    go_wp2
    go_ret
    exact ⟨rfl, rfl⟩

theorem runMachF_good {sy st : Int} {rs : List R3} {c : Conf} {N : Nat} (h : goodC sy st rs c) (hb : inB (N : Int) 1 20000 = true) : runMachF sy st rs c.q c.xs c.ys (N : Int) = match runN sy rs N c with
      | some i => (itC sy rs c i, (i : Int), haltC sy rs (itC sy rs c i), 0)
      | none => (⟨0, [], []⟩, 0, false, 5) := by
  unfold runMachF
  rw [show validConfB sy st rs c.q c.xs c.ys = true from h, hb, Int.toNat_natCast]
  rfl
/-- What l20Time has of RunMachine. -/
def TimeCut (W : World) (r : Conf × Int × Bool × Int) (s11 s12 s13 : Value) (wx : World) : Prop := s11 = .int .i64 r.2.1 ∧ s12 = .bool r.2.2.1 ∧ s13 = .int .i64 r.2.2.2 ∧ Below W.heap.size W wx
def Two (w : World) (v : Int × Int) (e : Ending) (w' : World) : Prop := e = .returned (.tuple #[.int .i64 v.1, .int .i64 v.2]) ∧ Below w.heap.size w w'
theorem two {w w' : World} {v : Int × Int} {a b : Int} (h : v = (a, b)) (z : Below w.heap.size w w') : Two w v (.returned (.tuple #[.int .i64 a, .int .i64 b])) w' := by subst h; exact ⟨rfl, z⟩

set_option maxRecDepth 100000 in
set_option maxHeartbeats 8000000 in
theorem l20Time_any (g : Nat) (sy st : Int) (A : Option Addr) (n k : Nat) (rs : List R3) (B : Option Addr) (m c : Nat) (xs : List Int) (N : Nat) (w : World) (hM : MachAt w g sy st A n k) (hr : S3 w A n rs) (hx : SI w B m xs) (hn : n ≤ 1048576) (hm : m ≤ 1048576) (hcap : m ≤ c) (hb : inB (N : Int) 1 20000 = true) :
    Calls Try.prog 119 #[.pointer (some ⟨g, 0, none⟩), .slice B m c, .int .i64 (N : Int)] w (Two w (timeF sy st rs N xs)) := by
  have HB := Lib.hid hb
  have hbb := (inB_iff _ _ _).1 hb
  clear hb
  obtain ⟨q0, q1, q2⟩ := id hM
  go_enter Try.func119, Try.ntmps119
  go_wp2_with fail
  refine (specStartConfig_any _ _ _ _ _ rs _ _ _ xs _ hr hx hn hm hcap).mono ?_
  rintro e W3 ⟨L3, a3, R3', d3, rfl, oL3, oR3, hap3, z3⟩
  have HSF : Hid ((startF sy st rs xs).2 = 0 → goodC sy st rs (startF sy st rs xs).1) := fun h => startF_good h
  have HTC := Lib.hid (fun h => timeF_code (sy := sy) (st := st) (rs := rs) (N := N) (xs := xs) h)
  have HTM : Hid ((startF sy st rs xs).2 = 0 → timeF sy st rs N xs = match runN sy rs N (startF sy st rs xs).1 with
    | some i => (if haltC sy rs (itC sy rs (startF sy st rs xs).1 i) then (i : Int) else -1, 0)
    | none => (0, 5)) := fun h => by unfold timeF; rw [if_pos h]; cases runN sy rs N (startF sy st rs xs).1 <;> rfl
  clear hap3 q0 q1 q2
  generalize startF sy st rs xs = sf at *
  obtain ⟨cf, kc⟩ := sf
  dsimp only at oL3 oR3 HSF HTC HTM ⊢
  obtain ⟨W4, hW_⟩ : ∃ W_, W_ = W3.alloc (.cells #[.int .i64 cf.q, .slice L3 cf.xs.length a3, .slice R3' cf.ys.length d3] 172) := ⟨_, rfl⟩
  have b4 : Blk W4 W3.heap.size 172 #[.int .i64 cf.q, .slice L3 cf.xs.length a3, .slice R3' cf.ys.length d3] := by rw [hW_]; exact Blk.new W3 _ _
  have z4 : Below W3.heap.size W3 W4 := by rw [hW_]; exact (Below.refl _ _).alloc (Nat.le_refl _) _
  have HW4 := Lib.hid hW_
  clear hW_
  have z34 := z3.trans (z4.mono z3.size)
  have hM4 := hM.below z34
  obtain ⟨q0, q1, q2⟩ := id hM4
  have u0 : W4.cell? ⟨W3.heap.size, 0, none⟩ = some (.int .i64 cf.q) := b4.cell 0
  have u1 : W4.cell? ⟨W3.heap.size, 1, none⟩ = some (.slice L3 cf.xs.length a3) := b4.cell 1
  have u2 : W4.cell? ⟨W3.heap.size, 2, none⟩ = some (.slice R3' cf.ys.length d3) := b4.cell 2
  go_upto_region 2 with fail
  rw [← HW4.out]
  clear HW4
  by_cases hk0 : kc = 0
  rotate_left
  · have HE := Lib.hid (HTC.out hk0)
    clear HTC HTM HSF
    go_wp2_with fail
    exact bodyPost_ret (v := .tuple #[.int .i64 0, .int .i64 kc]) (by simp [results, Try.results119, go_sem]) rfl (two HE.out z34)
  subst hk0
  have hgc := HSF.out (by trivial)
  have hcl := conf_len hgc
  have HT1 := Lib.hid (HTM.out (by trivial))
  have HRM := Lib.hid (runMachF_good hgc HB.out)
  obtain ⟨res, hres⟩ : ∃ res, res = runMachF sy st rs cf.q cf.xs cf.ys (N : Int) := ⟨_, rfl⟩
  have HRES := Lib.hid hres
  clear hres HTC HTM HSF
  have KEEP : Hid (∀ cur, Below W4.heap.size W4 cur → cur.cell? ⟨g, 0, none⟩ = some (.int .i64 sy) ∧ cur.cell? ⟨g, 1, none⟩ = some (.int .i64 st) ∧ cur.cell? ⟨g, 2, none⟩ = some (.slice A n k) ∧ cur.cell? ⟨W3.heap.size, 0, none⟩ = some (.int .i64 cf.q) ∧ cur.cell? ⟨W3.heap.size, 1, none⟩ = some (.slice L3 cf.xs.length a3) ∧ cur.cell? ⟨W3.heap.size, 2, none⟩ = some (.slice R3' cf.ys.length d3)) := fun cur h =>
    ⟨(hM4.below h).1, (hM4.below h).2.1, (hM4.below h).2.2, (b4.below' h).cell 0, (b4.below' h).cell 1, (b4.below' h).cell 2⟩
  go_upto_region 4 with fail
  go_cut [11, 12, 13] (fun s11 s12 s13 wx => TimeCut W4 res s11 s12 s13 wx)
  case first =>
    go_region_held3 (fun w' => w'.cell? ⟨g, 0, none⟩ = some (.int .i64 sy) ∧ w'.cell? ⟨g, 1, none⟩ = some (.int .i64 st) ∧ w'.cell? ⟨g, 2, none⟩ = some (.slice A n k) ∧ w'.cell? ⟨W3.heap.size, 0, none⟩ = some (.int .i64 cf.q) ∧ w'.cell? ⟨W3.heap.size, 1, none⟩ = some (.slice L3 cf.xs.length a3) ∧ w'.cell? ⟨W3.heap.size, 2, none⟩ = some (.slice R3' cf.ys.length d3))
      (first
        | (go_keep; done)
        | (exact KEEP.out _ (by first
            | exact zz5
            | exact zz5.alloc zz5.size _
            | exact below_drewN ((Below.refl _ _).alloc (Nat.le_refl _) _) _
            | exact (Below.refl _ _).alloc (Nat.le_refl _) _
            | exact conf_below (zz5.alloc zz5.size _) zz5.size _ _ _
            | exact conf_below zz5 BX.out.1 _ _ _)))
      (first
        | (go_at_call 161; refine (specRunMachine_any _ _ _ _ _ rs _ _ _ _ cf.xs _ _ _ cf.ys _ _ ((hr.below z34).drewN 1) ((oL3.below z4).asI.drewN 1) ((oR3.below z4).asI.drewN 1) hn (by omega) (by omega)).mono ?_; rw [← HRES.out]; rintro e W5 ⟨L5, a5, R5, d5, rfl, oL5, oR5, hap5, z5⟩; have hq : Below W4.heap.size W4 W5 := below_undrew z5; have zz5 := hq; clear hq)
        | (go_at_call 161; refine (specRunMachine_any _ _ _ _ _ rs _ _ _ _ cf.xs _ _ _ cf.ys _ _ (((hr.below z34).alloc _).drewN 1) (((oL3.below z4).asI.alloc _).drewN 1) (((oR3.below z4).asI.alloc _).drewN 1) hn (by omega) (by omega)).mono ?_; rw [← HRES.out]; rintro e W5 ⟨L5, a5, R5, d5, rfl, oL5, oR5, hap5, z5⟩; have hq : Below W4.heap.size W4 W5 := below_of_alloc (below_undrew z5); have zz5 := hq; clear hq; have BX := Lib.hid (((Bx.new W4 172 #[.int .i64 0, .slice none 0 0, .slice none 0 0] (Nat.le_refl _)).drewN 1).below' z5); have x0_ : _ = some (Value.int .i64 0) := BX.out.2.cell 0; have f0 := BX.out.2.frozen 0; have x1_ : _ = some (Value.slice none 0 0) := BX.out.2.cell 1; have f1 := BX.out.2.frozen 1; have x2_ : _ = some (Value.slice none 0 0) := BX.out.2.cell 2; have f2 := BX.out.2.frozen 2))
    all_goals
      go_wp2_with fail
      go_meet
      first
        | exact ⟨rfl, rfl, rfl, zz5.alloc zz5.size _⟩
        | exact ⟨rfl, rfl, rfl, conf_below zz5 BX.out.1 _ _ _⟩
  case rest =>
    obtain ⟨rfl, rfl, rfl, z6⟩ := hcut
    have y6 := z34.trans (z6.mono z34.size)
    rw [HRM.out] at HRES
    cases hrn : runN sy rs N cf with
    | none =>
      rw [hrn] at HRES HT1
      obtain rfl : res = (⟨0, [], []⟩, 0, false, 5) := HRES.out
      have HT2 : Hid (timeF sy st rs N xs = (0, 5)) := HT1
      clear HRES HT1 HRM hrn KEEP q0 q1 q2 u0 u1 u2
      dsimp only
      go_wp2_with fail
      exact bodyPost_ret (v := .tuple #[.int .i64 0, .int .i64 5]) (by simp [results, Try.results119, go_sem]) rfl (two HT2.out y6)
    | some i =>
      rw [hrn] at HRES HT1
      obtain rfl : res = (itC sy rs cf i, (i : Int), haltC sy rs (itC sy rs cf i), 0) := HRES.out
      have HT2 : Hid (timeF sy st rs N xs = (if haltC sy rs (itC sy rs cf i) then (i : Int) else -1, 0)) := HT1
      clear HRES HT1 HRM hrn KEEP q0 q1 q2 u0 u1 u2
      dsimp only
      cases hh : haltC sy rs (itC sy rs cf i) with
      | true =>
        have HT3 : Hid (timeF sy st rs N xs = ((i : Int), 0)) := Lib.hid (by rw [HT2.out, hh]; rfl)
        clear hh HT2
        go_wp2_with (go_at_call 162; refine (l20Count_any _ _ _).mono ?_; rintro e w' ⟨rfl, rfl⟩)
        exact bodyPost_ret (v := .tuple #[.int .i64 (i : Int), .int .i64 0]) (by simp [results, Try.results119, go_sem]) rfl (two HT3.out y6)
      | false =>
        have HT3 : Hid (timeF sy st rs N xs = (-1, 0)) := Lib.hid (by rw [HT2.out, hh]; rfl)
        clear hh HT2
        go_wp2_with (go_at_call 162; refine (l20Count_any _ _ _).mono ?_; rintro e w' ⟨rfl, rfl⟩)
        exact bodyPost_ret (v := .tuple #[.int .i64 (-1), .int .i64 0]) (by simp [results, Try.results119, go_sem]) rfl (two HT3.out y6)

end Go.Proofs.Ythipbeggaeogcaa
