/- The library's functions that the lexer calls, as this program has them: what each gives, the kit's contracts put in the walk's words. -/
import Derived.Test.YtdcdpegomncomaaDoorShelf
import Derived.Test.YtdcdpegomncomaaDoorLex4
import Derived.WalkSmall
import Derived.Lib.SmallJoins
import Derived.Lib.AtoiErrMem
import Derived.KernelRfl
namespace Go.Proofs.YtdcdpegomncomaaDoor
open Go.WK Go.RowKit

/-- What the library's variables hold, as far as it is read. -/
structure LE (w : World) : Prop where
  syn : ∃ tp p, w.var? Tryd.prog "strconv.ErrSyntax" = some #[.iface tp p]
  rng : ∃ tp p, w.var? Tryd.prog "strconv.ErrRange" = some #[.iface tp p]
theorem var_lt {w : World} {n : String} {g : Nat} {cs : Array Value} (hg : Tryd.prog.globalNamed n = some g) (h : w.var? Tryd.prog n = some cs) : g < w.heap.size := by
  unfold World.var? at h
  rw [hg] at h
  simp only [Option.bind_some] at h
  rcases Nat.lt_or_ge g w.heap.size with hlt | hge
  · exact hlt
  · rw [Array.getElem?_eq_none hge] at h; cases h
theorem var_chg {w w' : World} {n : String} {g : Nat} {cs : Array Value} (hg : Tryd.prog.globalNamed n = some g) (hc : Chg [] w w') (h : w.var? Tryd.prog n = some cs) : w'.var? Tryd.prog n = some cs := var?_below hc.below hg (var_lt hg h) h
theorem gSyn : Tryd.prog.globalNamed "strconv.ErrSyntax" = some 4 := by kernel_rfl
theorem gRng : Tryd.prog.globalNamed "strconv.ErrRange" = some 5 := by kernel_rfl
theorem LE.chg {w w' : World} (h : LE w) (hc : Chg [] w w') : LE w' := by
  obtain ⟨⟨t, p, h1⟩, ⟨t2, p2, h2⟩⟩ := h
  exact ⟨⟨t, p, var_chg gSyn hc h1⟩, ⟨t2, p2, var_chg gRng hc h2⟩⟩
theorem B_list (l : List UInt8) : (B l).data.toList = l := by simp [B]
theorem low_eq (c : UInt8) : Lib.lowerB c = low c := by
  unfold Lib.lowerB low Lib.isUpperB
  have h1 : (65 : UInt8) ≤ c ↔ 65 ≤ c.toNat := UInt8.le_iff_toNat_le
  have h2 : c ≤ (90 : UInt8) ↔ c.toNat ≤ 90 := UInt8.le_iff_toNat_le
  simp only [Bool.and_eq_true, decide_eq_true_eq, h1, h2]
theorem lib_lower (s : List UInt8) (w : World) (hs : s.length ≤ 140737488355328) (h : ∀ c ∈ s, c.toNat < 128) : Calls Tryd.prog 17 #[.string (B s)] w (Pure w (.string (B (small s)))) := by
  have h : Calls Tryd.prog 17 #[.string (B s)] w fun e w' => e = .returned (.string ⟨(Lib.toLowerA (B s).data.toList).toArray⟩) ∧ Below w.heap.size w w' :=
    Any.strings_ToLower_ascii Tryd.lays159 Tryd.Builder_Extra_159 (B s) w (by rw [B_size]; exact hs) (fun j b hb => by rw [B_list] at hb; exact h b (List.mem_of_getElem? hb))
  refine h.mono fun e w' ⟨he, hw⟩ => ⟨?_, Chg.of_below hw⟩
  rw [he, B_list]
  have e : Lib.toLowerA s = small s := by
    unfold Lib.toLowerA small
    congr 1
    funext c
    exact low_eq c
  rw [e]
theorem lib_prefix (s p : List UInt8) (w : World) : Calls Tryd.prog 21 #[.string (B s), .string (B p)] w (Pure w (.bool (p.isPrefixOf s))) := by
  have h : Calls Tryd.prog 21 #[.string (B s), .string (B p)] w fun e w' => e = .returned (.bool (Lib.hasPrefix (B s).data.toList (B p).data.toList)) ∧ w' = w := Any.strings_HasPrefix Tryd.lays99 (B s) (B p) w
  refine h.mono fun e w' ⟨he, hw⟩ => ⟨?_, by rw [hw]; exact Chg.refl _ _⟩
  rw [he, B_list, B_list]; rfl
theorem lib_index (s : List UInt8) (w : World) : Calls Tryd.prog 22 #[.string (B s), .int .u8 10] w (Pure w (.int .i64 (Lib.indexByte s 10))) := by
  have h : Calls Tryd.prog 22 #[.string (B s), .int .u8 10] w fun e w' => e = .returned (.int .i64 (Lib.indexByte (B s).data.toList (10 : Int).toNat.toUInt8)) ∧ w' = w := Any.strings_IndexByte Tryd.lays137 (B s) 10 w
  refine h.mono fun e w' ⟨he, hw⟩ => ⟨?_, by rw [hw]; exact Chg.refl _ _⟩
  rw [he, B_list]; rfl
theorem lib_parse (s : List UInt8) (n : Int) (w : World) (hs : s.length ≤ 281474976710656) (h : Lib.parseIntB 64 s = .ok n) : Calls Tryd.prog 29 #[.string (B s), .int .i64 10, .int .i64 64] w (Pure w (.tuple #[.int .i64 n, .nilIface])) := by
  have h : Calls Tryd.prog 29 #[.string (B s), .int .i64 10, .int .i64 64] w fun e w' => e = .returned (.tuple #[.int .i64 n, .nilIface]) ∧ (w' = w ∨ ∃ t, w' = Lib.bytesWorld w 5 t) :=
    Any.strconv_ParseInt_10_at64_ok Tryd.laysC174 (B s) (by rw [B_size]; omega) n (by rw [B_list]; exact h) w
  refine h.mono fun e w' ⟨he, hw⟩ => ⟨he, ?_⟩
  rcases hw with rfl | ⟨t, rfl⟩
  · exact Chg.refl _ _
  · exact Chg.of_below (Lib.bytesWorld_below _ _ _)
/-- No number: an error that is not nil. -/
theorem lib_bad (s : List UInt8) (w : World) (hs : s.length ≤ 281474976710656) (h : ∀ n, Lib.parseIntB 64 s ≠ .ok n) (hE : LE w) : Calls Tryd.prog 29 #[.string (B s), .int .i64 10, .int .i64 64] w fun e w' => ∃ j : Int × Nat, e = .returned (.tuple #[.int .i64 j.1, .iface 83 (.pointer (some ⟨j.2, 0, none⟩))]) ∧ Chg [] w w' := by
  obtain ⟨⟨tp, p, h1⟩, ⟨t2, p2, h2⟩⟩ := hE
  cases hp : Lib.parseIntB 64 s with
  | ok n => exact absurd hp (h n)
  | range =>
    have h : Calls Tryd.prog 29 #[.string (B s), .int .i64 10, .int .i64 64] w fun e w' => ∃ N, e = .returned (.tuple #[.int .i64 (Lib.intSat 64 (B s).data.toList), .iface 83 (.pointer (some ⟨N, 0, none⟩))]) ∧ w.heap.size ≤ N ∧ w'.heap[N]? = some (.cells #[.string ⟨#[80, 97, 114, 115, 101, 73, 110, 116]⟩, .string (B s), .iface t2 p2] 96 (0, 0)) ∧ Below w.heap.size w w' :=
      Any.strconv_ParseInt_10_at64_range_var Tryd.laysC174 (B s) (by rw [B_size]; exact hs) (by rw [B_list]; exact hp) t2 p2 w h2
    exact h.mono fun e w' ⟨N, he, _, _, hw⟩ => ⟨(_, N), he, Chg.of_below hw⟩
  | _ =>
    have h : Calls Tryd.prog 29 #[.string (B s), .int .i64 10, .int .i64 64] w fun e w' => ∃ N, e = .returned (.tuple #[.int .i64 (0), .iface 83 (.pointer (some ⟨N, 0, none⟩))]) ∧ w.heap.size ≤ N ∧ w'.heap[N]? = some (.cells #[.string ⟨#[80, 97, 114, 115, 101, 73, 110, 116]⟩, .string (B s), .iface tp p] 96 (0, 0)) ∧ Below w.heap.size w w' :=
      Any.strconv_ParseInt_10_at64_syntax_var Tryd.laysC174 (B s) (by rw [B_size]; exact hs) (by rw [B_list]; exact hp) tp p w h1
    exact h.mono fun e w' ⟨N, he, _, _, hw⟩ => ⟨(0, N), he, Chg.of_below hw⟩
theorem lib_num (s : List UInt8) (w : World) (hs : s.length ≤ 281474976710656) (hE : LE w) : Calls Tryd.prog 29 #[.string (B s), .int .i64 10, .int .i64 64] w fun e w' => ∃ j : Int × Value, ErrIs (parses s) j.2 ∧ e = .returned (.tuple #[.int .i64 j.1, j.2]) ∧ Chg [] w w' := by
  cases hp : parses s with
  | true =>
    obtain ⟨n, hn⟩ := parses_iff.1 hp
    exact (lib_parse s n w hs hn).mono fun e w' ⟨he, hc⟩ => ⟨(n, .nilIface), .inl ⟨rfl, rfl⟩, he, hc⟩
  | false => exact (lib_bad s w hs (parses_no hp) hE).mono fun e w' ⟨j, he, hc⟩ => ⟨(j.1, _), .inr ⟨rfl, _, _, rfl⟩, he, hc⟩
theorem ifE : Tryd.prog.underlying 28 = some (.interface (Tryd.prog.methodsAt 28)) := by kernel_rfl
end Go.Proofs.YtdcdpegomncomaaDoor
