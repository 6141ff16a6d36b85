/- The library's functions that the values' code calls, as this program has them: what each gives, the kit's contracts put in the walk's words. -/
import Derived.Test.YtgogkkkacpacgaaDoorShelf
import Derived.Test.YtgogkkkacpacgaaDoorValue4
import Derived.WalkSmall
import Derived.Lib.SmallJoins
import Derived.Lib.ItoaMem
import Derived.Lib.AppendIntMem
import Derived.Lib.AtoiErrMem
import Derived.KernelRfl
namespace Go.Proofs.YtgogkkkacpacgaaDoor
open Go.WK Go.RowKit

/-- What the library's variables hold, as far as it is read. -/
structure LV (w : World) : Prop where
  m : ∃ m, w.cell? ⟨0, 0, none⟩ = some (.int .i64 m)
  tab : Lib.TabIs Tryd.prog w "internal/strconv.uint64pow10" .u64 Lib.pow10Tab
structure LE (w : World) : Prop where
  syn : ∃ tp p, w.var? Tryd.prog "strconv.ErrSyntax" = some #[.iface tp p]
  rng : ∃ tp p, w.var? Tryd.prog "strconv.ErrRange" = some #[.iface tp p]
theorem var_lt {w : World} {n : String} {g : Nat} {cs : Array Value} (hg : Tryd.prog.globalNamed n = some g) (h : w.var? Tryd.prog n = some cs) : g < w.heap.size := by
  unfold World.var? at h
  rw [hg] at h
  simp only [Option.bind_some] at h
  rcases Nat.lt_or_ge g w.heap.size with hlt | hge
  · exact hlt
  · rw [Array.getElem?_eq_none hge] at h; cases h
theorem var_chg {w w' : World} {n : String} {g : Nat} {cs : Array Value} (hg : Tryd.prog.globalNamed n = some g) (hc : Chg [] w w') (h : w.var? Tryd.prog n = some cs) : w'.var? Tryd.prog n = some cs := var?_below hc.below hg (var_lt hg h) h
theorem gTab : Tryd.prog.globalNamed "internal/strconv.uint64pow10" = some 1 := by kernel_rfl
theorem gSyn : Tryd.prog.globalNamed "strconv.ErrSyntax" = some 2 := by kernel_rfl
theorem gRng : Tryd.prog.globalNamed "strconv.ErrRange" = some 3 := by kernel_rfl
theorem LV.chg {w w' : World} (h : LV w) (hc : Chg [] w w') : LV w' := by
  obtain ⟨⟨m, hm⟩, ht⟩ := h
  exact ⟨⟨m, by rw [hc.below.cell (p := ⟨0, 0, none⟩) (World.block_lt_of_cell? _ _ hm)]; exact hm⟩, var_chg gTab hc ht⟩
theorem LE.chg {w w' : World} (h : LE w) (hc : Chg [] w w') : LE w' := by
  obtain ⟨⟨t, p, h1⟩, ⟨t2, p2, h2⟩⟩ := h
  exact ⟨⟨t, p, var_chg gSyn hc h1⟩, ⟨t2, p2, var_chg gRng hc h2⟩⟩

theorem cmp_same : ∀ a b : List UInt8, Lib.compareBytes a b = cmpB a b
  | [], [] => rfl
  | [], _ :: _ => rfl
  | _ :: _, [] => rfl
  | a :: l, b :: m => by
    simp only [Lib.compareBytes, cmpB, UInt8.lt_iff_toNat_lt, cmp_same l m]
theorem B_list (l : List UInt8) : (B l).data.toList = l := by simp [B]
theorem lib_compare (a b : List UInt8) (w : World) : Calls Tryd.prog 75 #[.string (B a), .string (B b)] w (Pure w (.int .i64 (cmpB a b))) := by
  have h : Calls Tryd.prog 75 #[.string (B a), .string (B b)] w fun e w' => e = .returned (.int .i64 (Lib.compareBytes (B a).data.toList (B b).data.toList)) ∧ w' = w := Any.strings_Compare Tryd.lays106 (B a) (B b) w
  refine h.mono fun e w' ⟨he, hw⟩ => ⟨?_, by rw [hw]; exact Chg.refl _ _⟩
  rw [he, B_list, B_list, cmp_same]
theorem lib_format (n : Int) (w : World) (h : inR n = true) (hL : LV w) : Calls Tryd.prog 69 #[.int .i64 n, .int .i64 10] w (Pure w (.string (B (Lib.itoa n)))) := by
  obtain ⟨h1, h2⟩ := inR_iff.1 h
  have h : Calls Tryd.prog 69 #[.int .i64 n, .int .i64 10] w fun e w' => e = .returned (.string ⟨(Lib.itoa n).toArray⟩) ∧ ∃ k os, w' = Sort.grow (w.drewN k) os := Any.strconv_FormatInt_10 Tryd.laysM173 n h1 h2 w hL.tab
  refine h.mono fun e w' ⟨he, k, os, hw⟩ => ⟨he, ?_⟩
  subst hw
  exact Chg.of_below (Lib.below_grow _ w (Nat.le_refl _) k os)
theorem lib_replace (s old new : List UInt8) (w : World) (hs : s.length < 4294967281) (h1 : 1 ≤ old.length) (hne : old ≠ new) (hn : new.length ≤ 2) (hL : LV w) :
    Calls Tryd.prog 70 #[.string (B s), .string (B old), .string (B new)] w (Pure w (.string (B (repA old new s)))) := by
  obtain ⟨m, hm⟩ := hL.m
  have hcount : Lib.countB (B s) (B old) * (B new).size ≤ 2 * s.length + 2 := by
    have a1 := Lib.countB_mul_le (B old) (by rw [B_size]; exact h1) s.length (B s) (by rw [B_size]; exact Nat.le_refl _)
    rw [B_size, B_size] at a1
    have a2 : Lib.countB (B s) (B old) * 1 ≤ Lib.countB (B s) (B old) * old.length := Nat.mul_le_mul_left _ h1
    have a3 : Lib.countB (B s) (B old) * (B new).size ≤ Lib.countB (B s) (B old) * 2 := Nat.mul_le_mul_left _ (by rw [B_size]; exact hn)
    omega
  have h : Calls Tryd.prog 70 #[.string (B s), .string (B old), .string (B new)] w fun e w' => e = .returned (.string ⟨(Lib.replaceAll (B s).data.toList (B old).data.toList (B new).data.toList).toArray⟩) ∧ Below w.heap.size w w' :=
    Any.strings_ReplaceAll Tryd.lays155 Tryd.Builder_Extra_155 (B s) (B old) (B new) m w (by rw [B_size]; exact hs) hm (by rw [B_size]; exact h1) (by rw [B_size s]; omega)
  refine h.mono fun e w' ⟨he, hw⟩ => ⟨?_, Chg.of_below hw⟩
  rw [he, B_list, B_list, B_list]
  unfold Lib.replaceAll
  rw [replaceAll_eq hne]
theorem lib_dbl (s : List UInt8) (w : World) (hs : s.length < 4294967281) (hL : LV w) : Calls Tryd.prog 70 #[.string (B s), .string (B [39]), .string (B [39, 39])] w (Pure w (.string (B (dbl s)))) := by
  rw [← repA_dbl]
  exact lib_replace s [39] [39, 39] w hs (by simp) (by simp) (by simp) hL
theorem lib_und (s : List UInt8) (w : World) (hs : s.length < 4294967281) (hL : LV w) : Calls Tryd.prog 70 #[.string (B s), .string (B [39, 39]), .string (B [39])] w (Pure w (.string (B (und s)))) := by
  rw [← repA_und]
  exact lib_replace s [39, 39] [39] w hs (by simp) (by simp) (by simp) hL
theorem lib_parse (s : List UInt8) (n : Int) (w : World) (hs : s.length ≤ 281474976710656) (h : Lib.parseIntB 64 s = .ok n) : Calls Tryd.prog 72 #[.string (B s), .int .i64 10, .int .i64 64] w (Pure w (.tuple #[.int .i64 n, .nilIface])) := by
  have h : Calls Tryd.prog 72 #[.string (B s), .int .i64 10, .int .i64 64] w fun e w' => e = .returned (.tuple #[.int .i64 n, .nilIface]) ∧ (w' = w ∨ ∃ t, w' = Lib.bytesWorld w 5 t) :=
    Any.strconv_ParseInt_10_at64_ok Tryd.laysC174 (B s) (by rw [B_size]; omega) n (by rw [B_list]; exact h) w
  refine h.mono fun e w' ⟨he, hw⟩ => ⟨he, ?_⟩
  rcases hw with rfl | ⟨t, rfl⟩
  · exact Chg.refl _ _
  · exact Chg.of_below (Lib.bytesWorld_below _ _ _)
/-- No number: an error that is not nil. -/
theorem lib_bad (s : List UInt8) (w : World) (hs : s.length ≤ 281474976710656) (h : ∀ n, Lib.parseIntB 64 s ≠ .ok n) (hE : LE w) : Calls Tryd.prog 72 #[.string (B s), .int .i64 10, .int .i64 64] w fun e w' => ∃ j : Int × Nat, e = .returned (.tuple #[.int .i64 j.1, .iface 93 (.pointer (some ⟨j.2, 0, none⟩))]) ∧ Chg [] w w' := by
  obtain ⟨⟨t, p, h1⟩, ⟨t2, p2, h2⟩⟩ := hE
  cases hp : Lib.parseIntB 64 s with
  | ok n => exact absurd hp (h n)
  | range =>
    have h : Calls Tryd.prog 72 #[.string (B s), .int .i64 10, .int .i64 64] w fun e w' => ∃ N, e = .returned (.tuple #[.int .i64 (Lib.intSat 64 (B s).data.toList), .iface 93 (.pointer (some ⟨N, 0, none⟩))]) ∧ w.heap.size ≤ N ∧ w'.heap[N]? = some (.cells #[.string ⟨#[80, 97, 114, 115, 101, 73, 110, 116]⟩, .string (B s), .iface t2 p2] 108 (0, 0)) ∧ Below w.heap.size w w' :=
      Any.strconv_ParseInt_10_at64_range_var Tryd.laysC174 (B s) (by rw [B_size]; exact hs) (by rw [B_list]; exact hp) t2 p2 w h2
    exact h.mono fun e w' ⟨N, he, _, _, hw⟩ => ⟨(_, N), he, Chg.of_below hw⟩
  | _ =>
    have h : Calls Tryd.prog 72 #[.string (B s), .int .i64 10, .int .i64 64] w fun e w' => ∃ N, e = .returned (.tuple #[.int .i64 (0), .iface 93 (.pointer (some ⟨N, 0, none⟩))]) ∧ w.heap.size ≤ N ∧ w'.heap[N]? = some (.cells #[.string ⟨#[80, 97, 114, 115, 101, 73, 110, 116]⟩, .string (B s), .iface t p] 108 (0, 0)) ∧ Below w.heap.size w w' :=
      Any.strconv_ParseInt_10_at64_syntax_var Tryd.laysC174 (B s) (by rw [B_size]; exact hs) (by rw [B_list]; exact hp) t p w h1
    exact h.mono fun e w' ⟨N, he, _, _, hw⟩ => ⟨(0, N), he, Chg.of_below hw⟩
theorem lib_mul (x y : Nat) (w : World) (hx : x < 18446744073709551616) (hy : y < 18446744073709551616) : Calls Tryd.prog 80 #[.int .u64 (x : Int), .int .u64 (y : Int)] w (Pure w (.tuple #[.int .u64 ((x * y / 18446744073709551616 : Nat) : Int), .int .u64 ((x * y % 18446744073709551616 : Nat) : Int)])) :=
  (Tryd.bits_Mul64 x y hx hy w).mono fun e w' ⟨he, hw⟩ => ⟨he, by rw [hw]; exact Chg.refl _ _⟩
end Go.Proofs.YtgogkkkacpacgaaDoor
