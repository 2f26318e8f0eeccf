/-
  Decimal forms of the program: Decimal, decimals, dotted.
-/
import Derived.Test.YtfdbhlhlhjdpbaaDoorDecS
import Derived.Test.YtfdbhlhlhjdpbaaDoorShelf
import Derived.Lib.LaidTab
namespace Go.Proofs.YtfdbhlhlhjdpbaaDoor
open Go.RowKit

/-- The library's table of powers. -/
def Tab (w : World) : Prop := Lib.TabIs Tryd.prog w "internal/strconv.uint64pow10" .u64 Lib.pow10Tab
theorem Tab.below {w w' : World} (h : Tab w) (z : Below w.heap.size w w') : Tab w' := by
  unfold Tab Lib.TabIs at h ⊢
  unfold World.var? at h ⊢
  cases hg : Tryd.prog.globalNamed "internal/strconv.uint64pow10" with
  | none => rw [hg] at h; cases h
  | some g =>
    rw [hg] at h
    simp only [Option.bind_some] at h ⊢
    have hlt : g < w.heap.size := by
      refine Nat.lt_of_not_le fun hle => ?_
      rw [Array.getElem?_eq_none hle] at h
      cases h
    rw [z.block g hlt]
    exact h
theorem itoa_dec (u : Nat) : (⟨(Lib.itoa (u : Int)).toArray⟩ : ByteArray) = decS u := by
  unfold decS Lib.itoa
  rw [if_neg (by omega)]
  rfl
set_option maxHeartbeats 1000000 in
theorem decimal_any (u : Nat) (w : World) (hu : u ≤ 1000000000000) (ht : Tab w) :
    Calls Tryd.prog 108 #[.int .i64 (u : Int)] w fun e w' => e = .returned (.string (decS u)) ∧ Below w.heap.size w w' := by
  go_enter Tryd.func108, Tryd.ntmps108
  go_wp2_with (go_at_call 119; refine (Tryd.strconv_FormatInt_10 (u : Int) (by omega) (by omega) w ht).mono ?_; rintro e w' ⟨rfl, k, os, rfl⟩)
  go_ret
  exact ⟨by rw [itoa_dec]; rfl, ⟨rfl, rfl, rfl, by simp [Sort.grow], fun k hk => by simp [Sort.grow, Array.getElem?_append, hk]⟩⟩
theorem elS : Elem Tryd.prog 146 9 1 16 (.string ⟨#[]⟩) := ⟨Tryd.underlying146, by kernel_rfl, rfl, by decide⟩
def strs (l : List ByteArray) : List Value := l.map Value.string
theorem length_strs (l : List ByteArray) : (strs l).length = l.length := by simp [strs]
/-- Decimal forms of all numbers. -/
def decs (xs : List Int) : List ByteArray := xs.map fun x => decS x.toNat
theorem decs_next {xs : List Int} {k : Nat} {x : Int} (h : xs[k]? = some x) : decs (xs.take (k + 1)) = decs (xs.take k) ++ [decS x.toNat] := by
  unfold decs; rw [List.take_add_one, h]; simp
def joinD (xs : List Int) (sep : ByteArray) : List UInt8 := Lib.join ((decs xs).map (·.data.toList)) sep.data.toList
theorem joinTail_len (sep : List UInt8) (r : List (List UInt8)) (m : Nat) (h : ∀ x ∈ r, x.length ≤ m) : (Lib.joinTail sep r).length ≤ r.length * (sep.length + m) := by
  induction r with
  | nil => simp [Lib.joinTail]
  | cons x r ih =>
    have h1 := h x (by simp)
    have h2 := ih (fun y hy => h y (by simp [hy]))
    have e : Lib.joinTail sep (x :: r) = sep ++ x ++ Lib.joinTail sep r := by simp [Lib.joinTail]
    rw [e, List.length_append, List.length_append, List.length_cons, Nat.succ_mul]
    omega
theorem join_len (sep : List UInt8) (r : List (List UInt8)) (m : Nat) (h : ∀ x ∈ r, x.length ≤ m) : (Lib.join r sep).length ≤ r.length * (sep.length + m) := by
  cases r with
  | nil => simp [Lib.join_nil]
  | cons x r =>
    have h1 := joinTail_len sep r m (fun y hy => h y (by simp [hy]))
    have h2 := h x (by simp)
    rw [Lib.join_cons, List.length_append, List.length_cons, Nat.succ_mul]
    omega
theorem decS_len (u : Nat) (h : u ≤ 1000000000000) : (decS u).data.toList.length ≤ 19 := by
  have h1 := revDigs_len u (Nat.lt_of_le_of_lt h (by decide))
  unfold revDigs at h1
  simpa [decS] using h1
theorem joinD_len (xs : List Int) (sep : ByteArray) (hx : ∀ x ∈ xs, 0 ≤ x ∧ x ≤ 1000000000000) : (joinD xs sep).length ≤ xs.length * (sep.data.toList.length + 19) := by
  have h := join_len sep.data.toList ((decs xs).map (·.data.toList)) 19 (fun y hy => by
    obtain ⟨s, hs, rfl⟩ := List.mem_map.1 hy
    obtain ⟨x, hxm, rfl⟩ := List.mem_map.1 hs
    have := hx x hxm
    exact decS_len _ (by omega))
  rw [List.length_map] at h
  have e : (decs xs).length = xs.length := by simp [decs]
  rw [e] at h
  exact h
set_option maxRecDepth 100000 in
set_option maxHeartbeats 4000000 in
theorem decimals_any (A : Option Addr) (n c : Nat) (xs : List Int) (sep : ByteArray) (w : World) (hx : SI w A n xs) (hn : n ≤ 1000000) (hn1 : 1 ≤ n) (hr : ∀ x ∈ xs, 0 ≤ x ∧ x ≤ 1000000000000) (hs : sep.data.toList.length ≤ 100) (ht : Tab w) :
    Calls Tryd.prog 82 #[.slice A n c, .string sep] w fun e w' => e = .returned (.string ⟨(joinD xs sep).toArray⟩) ∧ Below w.heap.size w w' := by
  have HL := Lib.hid hx.len
  have HR := Lib.hid hr
  have HT := Lib.hid ht
  have HS := Lib.hid hs
  clear hr ht hs
  obtain ⟨W1, hW_⟩ : ∃ W_, W_ = w.alloc (.cells #[] 9) := ⟨_, rfl⟩
  have b1 : Blk W1 w.heap.size 9 #[] := by rw [hW_]; exact Blk.new w _ _
  have z1 : Below w.heap.size w W1 := by rw [hW_]; exact (Below.refl _ _).alloc (Nat.le_refl _) _
  have HW1 := Lib.hid hW_
  clear hW_
  have o1 : Own W1 w.heap.size 9 1 (some ⟨w.heap.size, 0, none⟩) 0 0 (strs (decs (xs.take 0))) := by rw [HW1.out]; exact Own.lit0 w _ 1
  go_enter Tryd.func82, Tryd.ntmps82
  go_upto_region 2 with fail
  rw [← HW1.out]
  clear HW1 b1
  go_wp2_with fail
  go_loopw [5, 11] (fun v i wr => ∃ (k : Nat) (B : Option Addr) (d : Nat), k ≤ n ∧ i = .int .i64 (k : Int) ∧ v = .slice B k d ∧ Own wr w.heap.size 9 1 B k d (strs (decs (xs.take k))) ∧ Hid (Below w.heap.size w wr)) (fun _ i _ => n - (intOf i).toNat)
  case atStart => exact ⟨0, _, 0, by omega, rfl, rfl, o1, Lib.hid z1⟩
  case round =>
    obtain ⟨k, B, d, hk, rfl, rfl, hO, HZ⟩ := hrel
    rename World => W0
    clear o1 z1
    by_cases hlt : k < n
    · have hw := hx.below HZ.out
      obtain ⟨b, off, rfl, _, hc⟩ := hw.at_ hlt
      obtain ⟨x, hx_⟩ : ∃ x, x = xs[k]'(by rw [HL.out]; exact hlt) := ⟨_, rfl⟩
      have hxr := HR.out x (by rw [hx_]; exact List.getElem_mem _)
      have hxk : Hid (xs[k]? = some x) := Lib.hid (by rw [hx_]; exact List.getElem?_eq_getElem _)
      rw [← hx_] at hc
      obtain ⟨u, rfl⟩ : ∃ u : Nat, x = (u : Int) := ⟨x.toNat, by omega⟩
      have HNX : Hid (strs (decs (xs.take k)) ++ [.string (decS u)] = strs (decs (xs.take (k + 1)))) := Lib.hid (by rw [decs_next hxk.out]; simp [strs])
      have hu : u ≤ 1000000000000 := by omega
      have hT := HT.out.below HZ.out
      clear hx_ hw hxr hxk
      have i1 : (k : Int) < (n : Int) := by omega
      have i0 : (0 : Int) ≤ (k : Int) := by omega
      go_wp2_with fail
      refine (decimal_any u W0 hu hT).mono ?_
      rintro e w1 ⟨rfl, z2⟩
      have hO1 := hO.below z2
      have HZ1 := Lib.hid (HZ.out.trans (z2.mono HZ.out.size))
      clear hT
      go_wp2_with (at_builtin; refine wpList_append_Own rfl (.tmp 15) (.tmp 18) rfl elS (lo := w.heap.size) rfl (hO1.alloc _) rfl (Rd.new1 _ (.string (decS u)) _) (by simp [Value.oneCell']) (by omega) (by simp only [maxLen]; omega) (by have := HZ1.out.size; simp; omega) ?_; intro A5 c5 w5 o5 hg5 hw5)
      rw [HNX.out] at o5
      have HZ5 : Hid (Below w.heap.size w w5) := Lib.hid (Own.below_of (hO1.alloc _) (HZ1.out.alloc HZ1.out.size _) hg5 (by have := HZ1.out.size; simp; omega))
      go_wp2_with fail
      go_roundw
      case rel => exact ⟨k + 1, A5, c5, by omega, by go_num, rfl, o5, HZ5⟩
      case measure => simp [intOf]; omega
    · obtain rfl : k = n := by omega
      have i2 : ¬ (k : Int) < (k : Int) := by omega
      obtain ⟨b', off', rfl, hlo, hb', _, _⟩ := hO.at_ (k := 0) (by rw [length_strs]; simp [decs]; have := HL.out; omega)
      have hlen : (decs xs).length = k := by simp [decs]; exact HL.out
      have hO2 : Own W0 w.heap.size 9 1 (some ⟨b', off', none⟩) k d (strs (decs xs)) := by
        have h := hO
        rw [List.take_of_length_le (by have := HL.out; omega)] at h
        exact h
      have hJ := Tryd.strings_Join b' off' d (decs xs) sep W0 (fun j s hj => by
        have hjl : j < (decs xs).length := (List.getElem?_eq_some_iff.1 hj).1
        obtain ⟨b2, o2, e, _, hc⟩ := hO2.rd.at_ (k := j) (by rw [length_strs]; exact hjl)
        simp only [Option.some.injEq, Addr.mk.injEq, and_true] at e
        obtain ⟨rfl, rfl⟩ := e
        rw [hc]
        simp [strs, (List.getElem?_eq_some_iff.1 hj).2]) hb' (by rw [hlen]; omega) (by rw [hlen]; exact hO2.le)
        (by
          have h1 := joinD_len xs sep HR.out
          have h2 : xs.length * (sep.data.toList.length + 19) ≤ 1000000 * (100 + 19) := Nat.mul_le_mul (by have := HL.out; omega) (by have := HS.out; omega)
          unfold joinD at h1
          omega)
      rw [hlen] at hJ
      have HJ := Lib.hid hJ
      clear hJ hO2
      go_wp2_with fail
      refine HJ.out.mono ?_
      rintro e w1 ⟨rfl, z2⟩
      go_wp2_with fail
      go_ret
      exact ⟨rfl, HZ.out.trans (z2.mono HZ.out.size)⟩
end Go.Proofs.YtfdbhlhlhjdpbaaDoor
