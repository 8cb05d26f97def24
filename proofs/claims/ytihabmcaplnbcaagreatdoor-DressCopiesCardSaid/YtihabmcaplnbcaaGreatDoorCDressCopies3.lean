/- A part of the proof of this sentence: DressCopies (36.3): any post, as a member gets it, by any token, is as the document has it, and the post itself is as it was; of at most 30 fields, names of at most 200, values and body of at most 3000 bytes. -/
import Derived.Test.YtihabmcaplnbcaaGreatDoorCDressCopies2
import Derived.Lib.ConvBytes
import Derived.Laws.Cover4
import Derived.Shelf.Strings.SlTrimAscii
set_option linter.unusedVariables false
set_option linter.unusedSimpArgs false
namespace Go.Proofs.YtihabmcaplnbcaaGreatDoor.Pl
open Go.RowKit Go.Proofs.YtihabmcaplnbcaaGreatDoorW.PrintWords
theorem encode_er (r : Nat) (h : r ≤ 1114111) : Utf8.encode (r : Int) = str (er r) := by
  have hb : ∀ (x : Int) (n : Nat), x = n → x.toNat.toUInt8 = UInt8.ofNat n := fun x n e => by rw [e]; rfl
  have ev : Utf8.valid (r : Int) = decide (r < 55296 ∨ (57344 ≤ r ∧ r ≤ 1114111)) := by
    unfold Utf8.valid
    rw [Bool.eq_iff_iff]
    simp
    omega
  unfold Utf8.encode
  rw [ev]
  by_cases hv : r < 55296 ∨ (57344 ≤ r ∧ r ≤ 1114111)
  · rw [decide_eq_true hv]
    simp only [if_true, Int.toNat_natCast]
    by_cases c1 : r < 128
    · rw [if_pos c1]
      unfold er Lib.encodeRune
      rw [Lib.encodeRuneZ_one (by omega) (by omega)]
      rfl
    · rw [if_neg c1]
      by_cases c2 : r < 2048
      · rw [if_pos c2]
        unfold er Lib.encodeRune
        rw [Lib.encodeRuneZ_two (by omega) (by omega)]
        simp only [List.map_cons, List.map_nil, hb (192 + (r : Int) / 64) (192 + r / 64) (by omega), hb (128 + (r : Int) % 64) (128 + r % 64) (by omega)]
        rfl
      · rw [if_neg c2]
        by_cases c3 : r < 65536
        · rw [if_pos c3]
          unfold er Lib.encodeRune
          rw [Lib.encodeRuneZ_three (by omega)]
          simp only [List.map_cons, List.map_nil, hb (224 + (r : Int) / 4096) (224 + r / 4096) (by omega), hb (128 + (r : Int) / 64 % 64) (128 + r / 64 % 64) (by omega), hb (128 + (r : Int) % 64) (128 + r % 64) (by omega)]
          rfl
        · rw [if_neg c3]
          unfold er Lib.encodeRune
          rw [Lib.encodeRuneZ_four (by omega) (by omega)]
          simp only [List.map_cons, List.map_nil, hb (240 + (r : Int) / 262144) (240 + r / 262144) (by omega), hb (128 + (r : Int) / 4096 % 64) (128 + r / 4096 % 64) (by omega), hb (128 + (r : Int) / 64 % 64) (128 + r / 64 % 64) (by omega), hb (128 + (r : Int) % 64) (128 + r % 64) (by omega)]
          rfl
  · rw [decide_eq_false hv]
    unfold er Lib.encodeRune
    rw [Lib.encodeRuneZ_bad (by omega)]
    have e : (if false = true then (r : Int).toNat else Utf8.runeError) = 65533 := rfl
    rw [e]
    decide
end Go.Proofs.YtihabmcaplnbcaaGreatDoor.Pl
namespace Go.Proofs.YtihabmcaplnbcaaGreatDoor.Fn
open Go.RowKit Go.Proofs.YtihabmcaplnbcaaGreatDoorW.PrintWords

def ew_written.f (a0 : Int) : Option ByteArray := if 0 ≤ a0 ∧ a0 ≤ 1114111 then some (Pl.str (Pl.wrL a0.toNat)) else none
theorem hexL_len : ∀ l : Pl.Bytes, (Pl.hexL l).length = 3 * l.length
  | [] => rfl
  | c :: l => by
    show (Pl.hexC c ++ Pl.hexL l).length = _
    rw [List.length_append, hexL_len l, List.length_cons]
    show 3 + _ = _
    omega
theorem hex_at : ∀ n : Fin 16, (ByteArray.mk #[48, 49, 50, 51, 52, 53, 54, 55, 56, 57, 65, 66, 67, 68, 69, 70]).extract n.val (n.val + 1) = Pl.str [Pl.hexU n.val] := by decide +kernel
theorem bytes_below (w : World) (e : TypeId) (u : ByteArray) : Below w.heap.size w (Lib.bytesWorld w e u) := by
  refine ⟨rfl, rfl, rfl, by rw [Lib.bytesWorld_size]; omega, fun b hb => Lib.bytesWorld_at_old w _ u b hb⟩
set_option maxHeartbeats 4000000 in
set_option maxRecDepth 100000 in
theorem ew_hex (a0 : Int) (u : ByteArray) (hu : Utf8.encode a0 = u) (w : World) (h0 : 0 ≤ a0) (h1 : a0 < 48 ∨ (57 < a0 ∧ a0 < 65) ∨ (90 < a0 ∧ a0 < 97) ∨ 122 < a0) (h2 : a0 ≠ 33 ∧ a0 ≠ 42 ∧ a0 ≠ 43 ∧ a0 ≠ 45 ∧ a0 ≠ 47 ∧ a0 ≠ 32) :
    Calls Tryz.prog 110 #[.int .i32 a0] w fun e w' => e = .returned (.string (Pl.str (Pl.hexL (Pl.bs u)))) ∧ Below w.heap.size w w' := by
  have hsz : u.size ≤ 4 := by rw [← hu]; exact Go.encode_size_le _
  have c6 : (a0 = (33 : Int)) = False := eq_false (by omega)
  have c7 : (a0 = (42 : Int)) = False := eq_false (by omega)
  have c8 : (a0 = (43 : Int)) = False := eq_false (by omega)
  have c9 : (a0 = (45 : Int)) = False := eq_false (by omega)
  have c10 : (a0 = (47 : Int)) = False := eq_false (by omega)
  have c11 : (a0 = (32 : Int)) = False := eq_false (by omega)
  have d6 : (a0 == (33 : Int)) = false := beq_eq_false_iff_ne.2 (by omega)
  have d7 : (a0 == (42 : Int)) = false := beq_eq_false_iff_ne.2 (by omega)
  have d8 : (a0 == (43 : Int)) = false := beq_eq_false_iff_ne.2 (by omega)
  have d9 : (a0 == (45 : Int)) = false := beq_eq_false_iff_ne.2 (by omega)
  have d10 : (a0 == (47 : Int)) = false := beq_eq_false_iff_ne.2 (by omega)
  have d11 : (a0 == (32 : Int)) = false := beq_eq_false_iff_ne.2 (by omega)
  have hcv : ∀ W : World, (convert 9 125 (.string u)).run Tryz.prog W = _ := fun W => Lib.run_convert_string_bytes W 9 125 5 u Tryz.underlying9 Tryz.underlying125 Tryz.underlying5
  have hB : Below w.heap.size w (Lib.bytesWorld w 5 u) := bytes_below w _ u
  have hcl := Lib.bytesWorld_cell w 5 u
  rcases h1 with h1 | h1 | h1 | h1
  all_goals
    first | have c0 : ((97 : Int) ≤ a0) = True := eq_true (by omega) | have c0 : ((97 : Int) ≤ a0) = False := eq_false (by omega)
    first | have c1 : (a0 ≤ (122 : Int)) = True := eq_true (by omega) | have c1 : (a0 ≤ (122 : Int)) = False := eq_false (by omega)
    first | have c2 : ((65 : Int) ≤ a0) = True := eq_true (by omega) | have c2 : ((65 : Int) ≤ a0) = False := eq_false (by omega)
    first | have c3 : (a0 ≤ (90 : Int)) = True := eq_true (by omega) | have c3 : (a0 ≤ (90 : Int)) = False := eq_false (by omega)
    first | have c4 : ((48 : Int) ≤ a0) = True := eq_true (by omega) | have c4 : ((48 : Int) ≤ a0) = False := eq_false (by omega)
    first | have c5 : (a0 ≤ (57 : Int)) = True := eq_true (by omega) | have c5 : (a0 ≤ (57 : Int)) = False := eq_false (by omega)
    clear h1 h2
    go_enter Tryz.func110, Tryz.ntmps110
    go_wp2
    generalize Lib.bytesWorld w 5 u = W1 at hB hcl
    go_loopw [3, 59] (fun v3 v59 wr => ∃ k : Nat, k ≤ u.size ∧ v3 = .string (Pl.str (Pl.hexL ((Pl.bs u).take k))) ∧ v59 = .int .i64 k ∧ Below w.heap.size w wr ∧ ∀ j, j < u.size → wr.cell? ⟨w.heap.size, j, none⟩ = some (.int .u8 (u.data.toList.getD j 0).toNat)) (fun v3 v59 _ => u.size - (intOf v59).toNat)
    case atStart => exact ⟨0, Nat.zero_le _, rfl, rfl, hB, hcl⟩
    case round =>
      clear hB hcl
      obtain ⟨k, hk, rfl, rfl, hB, hcl⟩ := hrel
      by_cases hlt : k < u.size
      · obtain ⟨c, hc⟩ : ∃ c : UInt8, u.data.toList.getD k 0 = c := ⟨_, rfl⟩
        have hcell := hcl k hlt
        rw [hc] at hcell
        have hct := c.toNat_lt
        have HCL := hid hcl
        clear hcl
        have e1 : IntKind.u8.wrap ((c.toNat : Int) / 16 + 1) = (c.toNat : Int) / 16 + 1 := by rw [u8_w]; omega
        have e2 : IntKind.u8.wrap ((c.toNat : Int) % 16 + 1) = (c.toNat : Int) % 16 + 1 := by rw [u8_w]; omega
        have f1 : (0 ≤ (c.toNat : Int) / 16) = True := eq_true (by omega)
        have f2 : (0 ≤ (c.toNat : Int) % 16) = True := eq_true (by omega)
        have f3 : ((c.toNat : Int) / 16 ≤ (c.toNat : Int) / 16 + 1) = True := eq_true (by omega)
        have f4 : ((c.toNat : Int) % 16 ≤ (c.toNat : Int) % 16 + 1) = True := eq_true (by omega)
        have f5 : ((c.toNat : Int) / 16 + 1 ≤ 16) = True := eq_true (by omega)
        have f6 : ((c.toNat : Int) % 16 + 1 ≤ 16) = True := eq_true (by omega)
        obtain ⟨A, hA⟩ : ∃ A, Pl.str [Pl.hexU (c.toNat / 16)] = A := ⟨_, rfl⟩
        obtain ⟨B, hB'⟩ : ∃ B, Pl.str [Pl.hexU (c.toNat % 16)] = B := ⟨_, rfl⟩
        obtain ⟨T, hT⟩ : ∃ T, Pl.str (Pl.hexL ((Pl.bs u).take k)) = T := ⟨_, rfl⟩
        have g1 : (ByteArray.mk #[48, 49, 50, 51, 52, 53, 54, 55, 56, 57, 65, 66, 67, 68, 69, 70]).extract ((c.toNat : Int) / 16).toNat ((c.toNat : Int) / 16 + 1).toNat = A := by
          rw [← hA, show ((c.toNat : Int) / 16).toNat = c.toNat / 16 by omega, show ((c.toNat : Int) / 16 + 1).toNat = c.toNat / 16 + 1 by omega]
          exact hex_at ⟨c.toNat / 16, by omega⟩
        have g2 : (ByteArray.mk #[48, 49, 50, 51, 52, 53, 54, 55, 56, 57, 65, 66, 67, 68, 69, 70]).extract ((c.toNat : Int) % 16).toNat ((c.toNat : Int) % 16 + 1).toNat = B := by
          rw [← hB', show ((c.toNat : Int) % 16).toNat = c.toNat % 16 by omega, show ((c.toNat : Int) % 16 + 1).toNat = c.toNat % 16 + 1 by omega]
          exact hex_at ⟨c.toNat % 16, by omega⟩
        have z1 : A.size = 1 := by rw [← hA]; rfl
        have z2 : B.size = 1 := by rw [← hB']; rfl
        have z3 : T.size ≤ 12 := by
          rw [← hT, Pl.str_size, hexL_len, List.length_take]
          omega
        have z4 : ((⟨#[61]⟩ : ByteArray) ++ A).size = 2 := by rw [ByteArray.size_append, z1]; rfl
        have z5 : (((⟨#[61]⟩ : ByteArray) ++ A) ++ B).size = 3 := by rw [ByteArray.size_append, z4, z2]
        have z6 : (T ++ (((⟨#[61]⟩ : ByteArray) ++ A) ++ B)).size = T.size + 3 := by rw [ByteArray.size_append, z5]
        have hfin : T ++ (((⟨#[61]⟩ : ByteArray) ++ A) ++ B) = Pl.str (Pl.hexL ((Pl.bs u).take (k + 1))) := by
          have h1 : (Pl.bs u).take (k + 1) = (Pl.bs u).take k ++ [c] := by
            have h2 : k < (Pl.bs u).length := by rw [Pl.bs_length]; exact hlt
            rw [List.take_succ_eq_append_getElem h2]
            congr 2
            rw [← hc]
            simp [Pl.bs, List.getD, hlt]
          rw [h1, ← hT, ← hA, ← hB', show (⟨#[61]⟩ : ByteArray) = Pl.str [61] from rfl, Pl.str_app, Pl.str_app, Pl.str_app]
          simp [Pl.hexL, Pl.hexC]
        have HF := hid hfin
        have HC := hid hc
        clear hfin hA hB' hc
        rw [hT]
        go_wp2
        go_quiet (fail)
        go_wp2
        go_roundw
        case rel => exact ⟨k + 1, by omega, by rw [HF.out], by go_num, pw_below_drewN hB _, HCL.out⟩
        case measure => simp [intOf]; omega
      · have hend : Hid (Pl.str (Pl.hexL ((Pl.bs u).take k)) = Pl.str (Pl.hexL (Pl.bs u))) := by
          show _ = _
          rw [List.take_of_length_le (by rw [Pl.bs_length]; omega)]
        go_wp2
        go_ret
        refine ⟨?_, hB⟩
        rw [← hend.out]
        rfl
set_option maxHeartbeats 4000000 in
set_option maxRecDepth 100000 in
theorem ew_safe (a0 : Int) (w : World) (h : (97 ≤ a0 ∧ a0 ≤ 122) ∨ (65 ≤ a0 ∧ a0 ≤ 90) ∨ (48 ≤ a0 ∧ a0 ≤ 57) ∨ a0 = 33 ∨ a0 = 42 ∨ a0 = 43 ∨ a0 = 45 ∨ a0 = 47) :
    Calls Tryz.prog 110 #[.int .i32 a0] w fun e w' => e = .returned (.string (Utf8.encode a0)) ∧ Below w.heap.size w w' := by
  have hB := Below.refl w.heap.size w
  rcases h with ⟨h, h'⟩ | ⟨h, h'⟩ | ⟨h, h'⟩ | rfl | rfl | rfl | rfl | rfl
  all_goals
    first | (have c0 : ((97 : Int) ≤ a0) = True := eq_true (by omega)) | (have c0 : ((97 : Int) ≤ a0) = False := eq_false (by omega)) | skip
    first | (have c1 : (a0 ≤ (122 : Int)) = True := eq_true (by omega)) | skip
    first | (have c2 : ((65 : Int) ≤ a0) = True := eq_true (by omega)) | (have c2 : ((65 : Int) ≤ a0) = False := eq_false (by omega)) | skip
    first | (have c3 : (a0 ≤ (90 : Int)) = True := eq_true (by omega)) | skip
    first | (have c4 : ((48 : Int) ≤ a0) = True := eq_true (by omega)) | skip
    first | (have c5 : (a0 ≤ (57 : Int)) = True := eq_true (by omega)) | skip
    go_enter Tryz.func110, Tryz.ntmps110
    go_wp2
    go_ret
    exact ⟨rfl, hB⟩
set_option maxHeartbeats 4000000 in
set_option maxRecDepth 100000 in
theorem ew_blank (w : World) : Calls Tryz.prog 110 #[.int .i32 32] w fun e w' => e = .returned (.string ⟨#[95]⟩) ∧ Below w.heap.size w w' := by
  have hB := Below.refl w.heap.size w
  go_enter Tryz.func110, Tryz.ntmps110
  go_wp2
  go_ret
  exact ⟨rfl, hB⟩
theorem ew_written.calls (a0 : Int) (r : ByteArray) (w : World) (h : ew_written.f a0 = some r) :
    Calls Tryz.prog 110 #[.int .i32 a0] w fun e w' => e = .returned (.string r) ∧ Below w.heap.size w w' := by
  unfold ew_written.f at h
  by_cases hs : 0 ≤ a0 ∧ a0 ≤ 1114111
  · rw [if_pos hs] at h
    have HR := Option.some.inj h
    subst HR
    obtain ⟨n, rfl⟩ : ∃ n : Nat, a0 = n := ⟨a0.toNat, by omega⟩
    have he := Pl.encode_er n (by omega)
    rw [Int.toNat_natCast]
    by_cases hf : Pl.safeR n = true
    · have hlt : n < 128 := by simp [Pl.safeR] at hf; omega
      have e : Pl.str (Pl.wrL n) = Utf8.encode (n : Int) := by
        rw [he, Pl.wrL, if_pos hf]
        unfold Pl.er Lib.encodeRune
        rw [Lib.encodeRuneZ_one (by omega) (by omega)]
        rfl
      rw [e]
      exact ew_safe n w (by simp [Pl.safeR] at hf; omega)
    · by_cases h32 : n = 32
      · subst h32
        exact ew_blank w
      · have e : Pl.str (Pl.wrL n) = Pl.str (Pl.hexL (Pl.bs (Utf8.encode (n : Int)))) := by rw [he, Pl.bs_str, Pl.wrL, if_neg hf, if_neg h32]
        rw [e]
        have hf' : ¬ ((97 ≤ n ∧ n ≤ 122) ∨ (65 ≤ n ∧ n ≤ 90) ∨ (48 ≤ n ∧ n ≤ 57) ∨ n = 33 ∨ n = 42 ∨ n = 43 ∨ n = 45 ∨ n = 47) := fun hh => hf (by simp [Pl.safeR]; exact hh)
        exact ew_hex n _ rfl w (by omega) (by omega) (by omega)
  · rw [if_neg hs] at h; exact absurd h (by simp)
end Go.Proofs.YtihabmcaplnbcaaGreatDoor.Fn
set_option linter.unusedVariables false
namespace Go.Proofs.YtihabmcaplnbcaaGreatDoor.Fn
open Go.RowKit Go.Proofs.YtihabmcaplnbcaaGreatDoorW.PrintWords

def strings_Contains.f (a0 a1 : ByteArray) : Option Bool := if a0.size < 4294967281 then some (Lib.contains a0.data.toList a1.data.toList) else none
theorem strings_Contains.calls (a0 a1 : ByteArray) (r : Bool) (w : World) (hG : Glob w) (h : strings_Contains.f a0 a1 = some r) :
    Calls Tryz.prog 66 #[.string a0, .string a1] w fun e w' => e = .returned (.bool r) ∧ Below w.heap.size w w' := by
  unfold strings_Contains.f at h
  by_cases hs : a0.size < 4294967281
  · rw [if_pos hs] at h
    have HR := Option.some.inj h
    subst HR
    obtain ⟨m, hm⟩ := hG.max
    refine (Tryz.strings_Contains a0 a1 m w hs hm).mono ?_
    rintro e w' ⟨rfl, rfl⟩
    exact ⟨rfl, Below.refl _ _⟩
  · rw [if_neg hs] at h
    exact absurd h (by simp)
end Go.Proofs.YtihabmcaplnbcaaGreatDoor.Fn
set_option linter.unusedVariables false
set_option linter.unusedSimpArgs false
namespace Go.Proofs.YtihabmcaplnbcaaGreatDoor.Fn
open Go.RowKit Go.Proofs.YtihabmcaplnbcaaGreatDoorW.PrintWords

def ew_Encode.f (a0 : ByteArray) : Option ByteArray := if a0.size ≤ 1000000000 then some (Pl.str (Pl.encL a0)) else none
theorem dec_le (s : ByteArray) (i : Nat) : (Utf8.decode s i).1 ≤ 1114111 := by
  have g0 := (s.get! i).toNat_lt
  rw [Lib.decode_at]
  unfold Lib.decodeN
  repeat' split
  all_goals (simp only []; omega)
theorem rawFrom_end (s : ByteArray) (f pos : Nat) (h : ¬ pos < s.size) : Pl.rawFrom s f pos = [] := by
  cases f with
  | zero => rfl
  | succ f => rw [Pl.rawFrom, if_neg h]
theorem wrL_len (r : Nat) : (Pl.wrL r).length ≤ 12 := by
  unfold Pl.wrL
  split
  · simp
  · split
    · simp
    · rw [hexL_len]
      have : (Pl.er r).length ≤ 4 := by
        have := Lib.encodeRuneZ_length (r : Int)
        unfold Pl.er Lib.encodeRune
        simpa using this.2
      omega
set_option maxHeartbeats 4000000 in
set_option maxRecDepth 100000 in
theorem ew_Encode.calls (a0 r : ByteArray) (w : World) (hG : Glob w) (h : ew_Encode.f a0 = some r) :
    Calls Tryz.prog 68 #[.string a0] w fun e w' => e = .returned (.string r) ∧ Below w.heap.size w w' := by
  unfold ew_Encode.f at h
  by_cases hs : a0.size ≤ 1000000000
  · rw [if_pos hs] at h
    have HR := hid (Option.some.inj h)
    clear h
    have hp1 : glyph_Plain.f a0 = some (Pl.plain a0) := by unfold glyph_Plain.f; rw [if_pos (by omega)]
    have hp2 : strings_Contains.f a0 ⟨#[61, 63]⟩ = some (Lib.contains (Pl.bs a0) [61, 63]) := by unfold strings_Contains.f; rw [if_pos (by omega)]; rfl
    have hcase : (Pl.plain a0 = true ∧ Lib.contains (Pl.bs a0) [61, 63] = false) ∨ (Pl.encL a0 = Pl.encW (Pl.rawFrom a0 a0.size 0) [] [] ∧ (Pl.plain a0 = false ∨ (Pl.plain a0 = true ∧ Lib.contains (Pl.bs a0) [61, 63] = true))) := by
      cases h1 : Pl.plain a0 <;> cases h2 : Lib.contains (Pl.bs a0) [61, 63] <;> simp [Pl.encL, h1, h2]
    rcases hcase with ⟨h1, h2⟩ | ⟨he, hh⟩
    · rw [h1] at hp1
      rw [h2] at hp2
      have hE : Hid (Pl.encL a0 = Pl.bs a0) := by
        show _ = _
        unfold Pl.encL
        rw [if_pos ⟨h1, h2⟩]
      have HP1 := hid hp1
      have HP2 := hid hp2
      have HG := hid hG
      clear hp1 hp2 h1 h2 hG
      go_enter Tryz.func68, Tryz.ntmps68
      go_wp2_with (first | (go_at_call 109; refine (glyph_Plain.calls a0 true _ HP1.out).mono ?_; rintro e W0 ⟨rfl, b0⟩; have hG0 := hid (HG.out.below b0)) | (go_at_call 66; refine (strings_Contains.calls a0 ⟨#[61, 63]⟩ false _ hG0.out HP2.out).mono ?_; rintro e W1 ⟨rfl, b1⟩))
      go_ret
      refine ⟨?_, b0.trans (b1.mono b0.size)⟩
      rw [← HR.out, hE.out, Pl.str_bs]
      rfl
    · have HE := hid he
      have HG := hid hG
      have HP1 := hid hp1
      have HP2 := hid hp2
      clear hp1 hp2 he hG
      rcases hh with h1 | ⟨h1, h2⟩
      · rw [h1] at HP1
        clear h1
        go_enter Tryz.func68, Tryz.ntmps68
        go_wp2_with (go_at_call 109; refine (glyph_Plain.calls a0 false _ HP1.out).mono ?_; rintro e W1 ⟨rfl, hB⟩)
        go_loopw [3, 4] (fun v3 v4 wr => ∃ (pos fuel : Nat) (O U : ByteArray), v3 = .string O ∧ v4 = .string U ∧ wr.heap[W1.heap.size]? = some (.stringIter a0 pos) ∧ Below w.heap.size w wr ∧ Hid (Pl.encW (Pl.rawFrom a0 fuel pos) (Pl.bs O) (Pl.bs U) = Pl.encL a0) ∧ a0.size ≤ pos + fuel ∧ O.size ≤ 100 * pos ∧ U.size ≤ 63 ∧ pos ≤ a0.size) (fun v3 v4 wr => a0.size - wr.iterPos W1.heap.size)
        case atStart =>
          refine ⟨0, a0.size, ⟨#[]⟩, ⟨#[]⟩, rfl, rfl, ?_, hB.alloc (by have := hB.size; omega) _, HE.out.symm, by omega, by decide, by decide, by omega⟩
          have := World.iter_heap W1 a0 0
          simpa using this
        case round =>
          obtain ⟨pos, fuel, O, U, rfl, rfl, hit, hbw, hacc, hfu, hO, hU, hpl⟩ := hrel
          have hsz : W1.heap.size < wr.heap.size := (Array.getElem?_eq_some_iff.1 hit).1
          have hB1 := hB.size
          have k2 : (⟨#[63, 61]⟩ : ByteArray).size = 2 := rfl
          have k1 : (⟨#[32]⟩ : ByteArray).size = 1 := rfl
          have k10 : (⟨#[61, 63, 117, 116, 102, 45, 56, 63, 113, 63]⟩ : ByteArray).size = 10 := rfl
          by_cases hp : pos < a0.size
          · have hnx : ∀ ty, (Instr.next (.pointer (some ⟨W1.heap.size, 0, none⟩)) true ty).run Tryz.prog wr = _ := fun ty => Lib.run_next_any_at wr W1.heap.size a0 pos ty hit hp
            have hwd : 1 ≤ (Utf8.decode a0 pos).2 := Pl.width_pos a0 pos hp
            have hwe := Pl.width_end a0 pos hp
            have hd1 := dec_le a0 pos
            have hit2 := Lib.iterAt_heap wr W1.heap.size a0 pos (pos + (Utf8.decode a0 pos).2) hit
            have hbw2 := Lib.below_iterAt hbw (k := W1.heap.size) (by omega) a0 (pos + (Utf8.decode a0 pos).2)
            obtain ⟨f, rfl⟩ : ∃ f, fuel = f + 1 := ⟨fuel - 1, by omega⟩
            obtain ⟨T, hT⟩ : ∃ T, Pl.str (Pl.wrL (Utf8.decode a0 pos).1) = T := ⟨_, rfl⟩
            have hbT : Pl.bs T = Pl.wrL (Utf8.decode a0 pos).1 := by rw [← hT, Pl.bs_str]
            have hzT : T.size ≤ 12 := by
              have := wrL_len (Utf8.decode a0 pos).1
              rw [← hT, Pl.str_size]
              exact this
            have hw : Hid (ew_written.f ((Utf8.decode a0 pos).1 : Int) = some T) := by
              show _ = _
              unfold ew_written.f
              rw [if_pos ⟨by omega, by omega⟩, Int.toNat_natCast, hT]
            have hstep : Hid (Pl.rawFrom a0 (f + 1) pos = (Utf8.decode a0 pos).1 :: Pl.rawFrom a0 f (pos + (Utf8.decode a0 pos).2)) := by
              show _ = _
              rw [Pl.rawFrom, if_pos hp]
            rw [hstep.out, Pl.encW, ← hbT, Pl.bs_length, Pl.bs_length] at hacc
            by_cases hbrk : 63 < U.size + T.size
            · rw [if_pos hbrk] at hacc
              have d0 : decide ((63 : Int) < (U.size : Int) + (T.size : Int)) = true := decide_eq_true (by omega)
              have z1 : ((⟨#[61, 63, 117, 116, 102, 45, 56, 63, 113, 63]⟩ : ByteArray) ++ U).size = 10 + U.size := by rw [ByteArray.size_append, k10]
              have z2 : (((⟨#[61, 63, 117, 116, 102, 45, 56, 63, 113, 63]⟩ : ByteArray) ++ U) ++ ⟨#[63, 61]⟩).size = 12 + U.size := by rw [ByteArray.size_append, z1, k2]; omega
              have z3 : ((((⟨#[61, 63, 117, 116, 102, 45, 56, 63, 113, 63]⟩ : ByteArray) ++ U) ++ ⟨#[63, 61]⟩) ++ ⟨#[32]⟩).size = 13 + U.size := by rw [ByteArray.size_append, z2, k1]; omega
              have z4 : (O ++ ((((⟨#[61, 63, 117, 116, 102, 45, 56, 63, 113, 63]⟩ : ByteArray) ++ U) ++ ⟨#[63, 61]⟩) ++ ⟨#[32]⟩)).size = O.size + (13 + U.size) := by rw [ByteArray.size_append, z3]
              have z5 : ((⟨#[]⟩ : ByteArray) ++ T).size = T.size := by rw [ByteArray.size_append]; exact Nat.zero_add _
              have hnew : Hid (Pl.encW (Pl.rawFrom a0 f (pos + (Utf8.decode a0 pos).2)) (Pl.bs (O ++ ((((⟨#[61, 63, 117, 116, 102, 45, 56, 63, 113, 63]⟩ : ByteArray) ++ U) ++ ⟨#[63, 61]⟩) ++ ⟨#[32]⟩))) (Pl.bs ((⟨#[]⟩ : ByteArray) ++ T)) = Pl.encL a0) := by
                show _ = _
                rw [← hacc]
                simp only [Pl.bs_app]
                simp [Pl.bs, Pl.frontL, Pl.shutL]
              clear hacc hstep hT hbT
              go_wp2_with (go_at_call 110; refine (ew_written.calls _ T _ hw.out).mono ?_; rintro e W2 ⟨rfl, b2⟩)
              go_roundw
              case rel =>
                refine ⟨pos + (Utf8.decode a0 pos).2, f, _, _, rfl, rfl, (b2.block _ (by rw [Lib.iterAt_size]; exact hsz)).trans hit2, hbw2.trans (b2.mono (by rw [Lib.iterAt_size]; omega)), hnew, by omega, ?_, ?_, hwe⟩
                · rw [z4]; omega
                · rw [z5]; omega
              case measure =>
                have := (b2.block W1.heap.size (by rw [Lib.iterAt_size]; exact hsz)).trans hit2
                simp only [World.iterPos, this, hit]
                omega
            · rw [if_neg hbrk] at hacc
              have d0 : decide ((63 : Int) < (U.size : Int) + (T.size : Int)) = false := decide_eq_false (by omega)
              have z5 : (U ++ T).size = U.size + T.size := by rw [ByteArray.size_append]
              have hnew : Hid (Pl.encW (Pl.rawFrom a0 f (pos + (Utf8.decode a0 pos).2)) (Pl.bs O) (Pl.bs (U ++ T)) = Pl.encL a0) := by
                show _ = _
                rw [← hacc, Pl.bs_app]
              clear hacc hstep hT hbT
              go_wp2_with (go_at_call 110; refine (ew_written.calls _ T _ hw.out).mono ?_; rintro e W2 ⟨rfl, b2⟩)
              go_roundw
              case rel =>
                refine ⟨pos + (Utf8.decode a0 pos).2, f, _, _, rfl, rfl, (b2.block _ (by rw [Lib.iterAt_size]; exact hsz)).trans hit2, hbw2.trans (b2.mono (by rw [Lib.iterAt_size]; omega)), hnew, by omega, by omega, ?_, hwe⟩
                rw [z5]; omega
              case measure =>
                have := (b2.block W1.heap.size (by rw [Lib.iterAt_size]; exact hsz)).trans hit2
                simp only [World.iterPos, this, hit]
                omega
          · have hnx : ∀ ty, (Instr.next (.pointer (some ⟨W1.heap.size, 0, none⟩)) true ty).run Tryz.prog wr = _ := fun ty => Lib.run_next_end_at wr W1.heap.size a0 pos ty hit hp
            rw [rawFrom_end _ _ _ hp] at hacc
            have z1 : (O ++ (⟨#[61, 63, 117, 116, 102, 45, 56, 63, 113, 63]⟩ : ByteArray)).size = O.size + 10 := by rw [ByteArray.size_append, k10]
            have z2 : ((O ++ (⟨#[61, 63, 117, 116, 102, 45, 56, 63, 113, 63]⟩ : ByteArray)) ++ U).size = O.size + 10 + U.size := by rw [ByteArray.size_append, z1]
            have z3 : (((O ++ (⟨#[61, 63, 117, 116, 102, 45, 56, 63, 113, 63]⟩ : ByteArray)) ++ U) ++ ⟨#[63, 61]⟩).size = O.size + 10 + U.size + 2 := by rw [ByteArray.size_append, z2, k2]
            have hend : Hid (((O ++ (⟨#[61, 63, 117, 116, 102, 45, 56, 63, 113, 63]⟩ : ByteArray)) ++ U) ++ ⟨#[63, 61]⟩ = r) := by
              show _ = _
              rw [← HR.out, ← hacc.out]
              apply Pl.bs_inj
              rw [Pl.bs_str, Pl.encW]
              simp only [Pl.bs_app]
              simp [Pl.bs, Pl.frontL, Pl.shutL]
            clear hacc
            go_wp2
            go_ret
            exact ⟨by rw [← hend.out]; rfl, hbw⟩
      · rw [h1] at HP1
        rw [h2] at HP2
        clear h1 h2
        go_enter Tryz.func68, Tryz.ntmps68
        go_wp2_with (first | (go_at_call 109; refine (glyph_Plain.calls a0 true _ HP1.out).mono ?_; rintro e W0 ⟨rfl, b0⟩; have hG0 := hid (HG.out.below b0)) | (go_at_call 66; refine (strings_Contains.calls a0 ⟨#[61, 63]⟩ true _ hG0.out HP2.out).mono ?_; rintro e W1 ⟨rfl, b1⟩; have hB := b0.trans (b1.mono b0.size)))
        go_loopw [3, 4] (fun v3 v4 wr => ∃ (pos fuel : Nat) (O U : ByteArray), v3 = .string O ∧ v4 = .string U ∧ wr.heap[W1.heap.size]? = some (.stringIter a0 pos) ∧ Below w.heap.size w wr ∧ Hid (Pl.encW (Pl.rawFrom a0 fuel pos) (Pl.bs O) (Pl.bs U) = Pl.encL a0) ∧ a0.size ≤ pos + fuel ∧ O.size ≤ 100 * pos ∧ U.size ≤ 63 ∧ pos ≤ a0.size) (fun v3 v4 wr => a0.size - wr.iterPos W1.heap.size)
        case atStart =>
          refine ⟨0, a0.size, ⟨#[]⟩, ⟨#[]⟩, rfl, rfl, ?_, hB.alloc (by have := hB.size; omega) _, HE.out.symm, by omega, by decide, by decide, by omega⟩
          have := World.iter_heap W1 a0 0
          simpa using this
        case round =>
          obtain ⟨pos, fuel, O, U, rfl, rfl, hit, hbw, hacc, hfu, hO, hU, hpl⟩ := hrel
          have hsz : W1.heap.size < wr.heap.size := (Array.getElem?_eq_some_iff.1 hit).1
          have hB1 := hB.size
          have k2 : (⟨#[63, 61]⟩ : ByteArray).size = 2 := rfl
          have k1 : (⟨#[32]⟩ : ByteArray).size = 1 := rfl
          have k10 : (⟨#[61, 63, 117, 116, 102, 45, 56, 63, 113, 63]⟩ : ByteArray).size = 10 := rfl
          by_cases hp : pos < a0.size
          · have hnx : ∀ ty, (Instr.next (.pointer (some ⟨W1.heap.size, 0, none⟩)) true ty).run Tryz.prog wr = _ := fun ty => Lib.run_next_any_at wr W1.heap.size a0 pos ty hit hp
            have hwd : 1 ≤ (Utf8.decode a0 pos).2 := Pl.width_pos a0 pos hp
            have hwe := Pl.width_end a0 pos hp
            have hd1 := dec_le a0 pos
            have hit2 := Lib.iterAt_heap wr W1.heap.size a0 pos (pos + (Utf8.decode a0 pos).2) hit
            have hbw2 := Lib.below_iterAt hbw (k := W1.heap.size) (by omega) a0 (pos + (Utf8.decode a0 pos).2)
            obtain ⟨f, rfl⟩ : ∃ f, fuel = f + 1 := ⟨fuel - 1, by omega⟩
            obtain ⟨T, hT⟩ : ∃ T, Pl.str (Pl.wrL (Utf8.decode a0 pos).1) = T := ⟨_, rfl⟩
            have hbT : Pl.bs T = Pl.wrL (Utf8.decode a0 pos).1 := by rw [← hT, Pl.bs_str]
            have hzT : T.size ≤ 12 := by
              have := wrL_len (Utf8.decode a0 pos).1
              rw [← hT, Pl.str_size]
              exact this
            have hw : Hid (ew_written.f ((Utf8.decode a0 pos).1 : Int) = some T) := by
              show _ = _
              unfold ew_written.f
              rw [if_pos ⟨by omega, by omega⟩, Int.toNat_natCast, hT]
            have hstep : Hid (Pl.rawFrom a0 (f + 1) pos = (Utf8.decode a0 pos).1 :: Pl.rawFrom a0 f (pos + (Utf8.decode a0 pos).2)) := by
              show _ = _
              rw [Pl.rawFrom, if_pos hp]
            rw [hstep.out, Pl.encW, ← hbT, Pl.bs_length, Pl.bs_length] at hacc
            by_cases hbrk : 63 < U.size + T.size
            · rw [if_pos hbrk] at hacc
              have d0 : decide ((63 : Int) < (U.size : Int) + (T.size : Int)) = true := decide_eq_true (by omega)
              have z1 : ((⟨#[61, 63, 117, 116, 102, 45, 56, 63, 113, 63]⟩ : ByteArray) ++ U).size = 10 + U.size := by rw [ByteArray.size_append, k10]
              have z2 : (((⟨#[61, 63, 117, 116, 102, 45, 56, 63, 113, 63]⟩ : ByteArray) ++ U) ++ ⟨#[63, 61]⟩).size = 12 + U.size := by rw [ByteArray.size_append, z1, k2]; omega
              have z3 : ((((⟨#[61, 63, 117, 116, 102, 45, 56, 63, 113, 63]⟩ : ByteArray) ++ U) ++ ⟨#[63, 61]⟩) ++ ⟨#[32]⟩).size = 13 + U.size := by rw [ByteArray.size_append, z2, k1]; omega
              have z4 : (O ++ ((((⟨#[61, 63, 117, 116, 102, 45, 56, 63, 113, 63]⟩ : ByteArray) ++ U) ++ ⟨#[63, 61]⟩) ++ ⟨#[32]⟩)).size = O.size + (13 + U.size) := by rw [ByteArray.size_append, z3]
              have z5 : ((⟨#[]⟩ : ByteArray) ++ T).size = T.size := by rw [ByteArray.size_append]; exact Nat.zero_add _
              have hnew : Hid (Pl.encW (Pl.rawFrom a0 f (pos + (Utf8.decode a0 pos).2)) (Pl.bs (O ++ ((((⟨#[61, 63, 117, 116, 102, 45, 56, 63, 113, 63]⟩ : ByteArray) ++ U) ++ ⟨#[63, 61]⟩) ++ ⟨#[32]⟩))) (Pl.bs ((⟨#[]⟩ : ByteArray) ++ T)) = Pl.encL a0) := by
                show _ = _
                rw [← hacc]
                simp only [Pl.bs_app]
                simp [Pl.bs, Pl.frontL, Pl.shutL]
              clear hacc hstep hT hbT
              go_wp2_with (go_at_call 110; refine (ew_written.calls _ T _ hw.out).mono ?_; rintro e W2 ⟨rfl, b2⟩)
              go_roundw
              case rel =>
                refine ⟨pos + (Utf8.decode a0 pos).2, f, _, _, rfl, rfl, (b2.block _ (by rw [Lib.iterAt_size]; exact hsz)).trans hit2, hbw2.trans (b2.mono (by rw [Lib.iterAt_size]; omega)), hnew, by omega, ?_, ?_, hwe⟩
                · rw [z4]; omega
                · rw [z5]; omega
              case measure =>
                have := (b2.block W1.heap.size (by rw [Lib.iterAt_size]; exact hsz)).trans hit2
                simp only [World.iterPos, this, hit]
                omega
            · rw [if_neg hbrk] at hacc
              have d0 : decide ((63 : Int) < (U.size : Int) + (T.size : Int)) = false := decide_eq_false (by omega)
              have z5 : (U ++ T).size = U.size + T.size := by rw [ByteArray.size_append]
              have hnew : Hid (Pl.encW (Pl.rawFrom a0 f (pos + (Utf8.decode a0 pos).2)) (Pl.bs O) (Pl.bs (U ++ T)) = Pl.encL a0) := by
                show _ = _
                rw [← hacc, Pl.bs_app]
              clear hacc hstep hT hbT
              go_wp2_with (go_at_call 110; refine (ew_written.calls _ T _ hw.out).mono ?_; rintro e W2 ⟨rfl, b2⟩)
              go_roundw
              case rel =>
                refine ⟨pos + (Utf8.decode a0 pos).2, f, _, _, rfl, rfl, (b2.block _ (by rw [Lib.iterAt_size]; exact hsz)).trans hit2, hbw2.trans (b2.mono (by rw [Lib.iterAt_size]; omega)), hnew, by omega, by omega, ?_, hwe⟩
                rw [z5]; omega
              case measure =>
                have := (b2.block W1.heap.size (by rw [Lib.iterAt_size]; exact hsz)).trans hit2
                simp only [World.iterPos, this, hit]
                omega
          · have hnx : ∀ ty, (Instr.next (.pointer (some ⟨W1.heap.size, 0, none⟩)) true ty).run Tryz.prog wr = _ := fun ty => Lib.run_next_end_at wr W1.heap.size a0 pos ty hit hp
            rw [rawFrom_end _ _ _ hp] at hacc
            have z1 : (O ++ (⟨#[61, 63, 117, 116, 102, 45, 56, 63, 113, 63]⟩ : ByteArray)).size = O.size + 10 := by rw [ByteArray.size_append, k10]
            have z2 : ((O ++ (⟨#[61, 63, 117, 116, 102, 45, 56, 63, 113, 63]⟩ : ByteArray)) ++ U).size = O.size + 10 + U.size := by rw [ByteArray.size_append, z1]
            have z3 : (((O ++ (⟨#[61, 63, 117, 116, 102, 45, 56, 63, 113, 63]⟩ : ByteArray)) ++ U) ++ ⟨#[63, 61]⟩).size = O.size + 10 + U.size + 2 := by rw [ByteArray.size_append, z2, k2]
            have hend : Hid (((O ++ (⟨#[61, 63, 117, 116, 102, 45, 56, 63, 113, 63]⟩ : ByteArray)) ++ U) ++ ⟨#[63, 61]⟩ = r) := by
              show _ = _
              rw [← HR.out, ← hacc.out]
              apply Pl.bs_inj
              rw [Pl.bs_str, Pl.encW]
              simp only [Pl.bs_app]
              simp [Pl.bs, Pl.frontL, Pl.shutL]
            clear hacc
            go_wp2
            go_ret
            exact ⟨by rw [← hend.out]; rfl, hbw⟩
  · rw [if_neg hs] at h; exact absurd h (by simp)
end Go.Proofs.YtihabmcaplnbcaaGreatDoor.Fn
set_option linter.unusedVariables false
namespace Go.Proofs.YtihabmcaplnbcaaGreatDoor.Fn
open Go.RowKit Go.Proofs.YtihabmcaplnbcaaGreatDoorW.PrintWords

def strings_Trim.f (a0 a1 : ByteArray) : Option ByteArray :=
  if a0.size ≤ 140737488355328 then (if a1.size ≤ 1000 then (if a1.data.toList.all (fun b => decide (b.toNat < 128)) = true then some (Pl.str (Lib.trimS a0.data.toList a1.data.toList)) else none) else none) else none
theorem strings_Trim.calls (a0 a1 r : ByteArray) (w : World) (h : strings_Trim.f a0 a1 = some r) :
    Calls Tryz.prog 70 #[.string a0, .string a1] w fun e w' => e = .returned (.string r) ∧ Below w.heap.size w w' := by
  unfold strings_Trim.f at h
  by_cases hs : a0.size ≤ 140737488355328
  · rw [if_pos hs] at h
    by_cases hc : a1.size ≤ 1000
    · rw [if_pos hc] at h
      by_cases ha : a1.data.toList.all (fun b => decide (b.toNat < 128)) = true
      · rw [if_pos ha] at h
        have HR := Option.some.inj h
        subst HR
        exact Any.strings_Trim_laid Tryz.lays160 (by kernel_rfl) a0 a1 w (by omega) (by omega) (ascii_of_all ha)
      · rw [if_neg ha] at h; exact absurd h (by simp)
    · rw [if_neg hc] at h; exact absurd h (by simp)
  · rw [if_neg hs] at h; exact absurd h (by simp)
end Go.Proofs.YtihabmcaplnbcaaGreatDoor.Fn
namespace Go.Proofs.YtihabmcaplnbcaaGreatDoor.Fn
open Go.RowKit Go.Proofs.YtihabmcaplnbcaaGreatDoorW.PrintWords Go.Proofs.YtihabmcaplnbcaaGreatDoorW.PrintLast Go.Proofs.YtihabmcaplnbcaaGreatDoorW.PrintMore
attribute [local go_sem] max2_int min2_int max_two min_two max_three min_three max_four min_four
set_option linter.unusedVariables false
set_option linter.unusedSimpArgs false

/-! ### dress_Subject: function 32 -/
def dress_Subject.f (a0 : ByteArray) (a1 : ByteArray) : Option (ByteArray) := (ew_Decode.f a1).bind fun t205 => ((glyph_Clean.f t205).bind fun t206 => ((glyph_Fold.f t206).bind fun t207 => ((dress_tag.f a0).bind fun t208 => ((strings_Contains.f t207 t208).bind fun t209 => (if t209 = true then (some a1) else ((dress_tag.f a0).bind fun t210 => (if t210.size + 1 ≤ 9223372036854775807 then ((strings_Trim.f t206 (⟨#[32]⟩ : ByteArray)).bind fun t211 => (if (t210 ++ (⟨#[32]⟩ : ByteArray)).size + t211.size ≤ 9223372036854775807 then ((strings_TrimRight.f ((t210 ++ (⟨#[32]⟩ : ByteArray)) ++ t211) (⟨#[32]⟩ : ByteArray)).bind fun t212 => ((ew_Encode.f t212).bind fun t213 => (some t213))) else (none))) else (none))))))))
set_option maxHeartbeats 8000000 in
set_option maxRecDepth 100000 in
theorem dress_Subject.calls (a0 : ByteArray) (a1 : ByteArray) (r : ByteArray) (w : World) (hG : Glob w) (h : dress_Subject.f a0 a1 = some r) :
  Calls Tryz.prog 32 #[.string a0, .string a1] w fun e w' => e = .returned (.string r) ∧ Below w.heap.size w w' := by
 have HB := Aside0.mk (Below.refl w.heap.size w)
 have H : ((ew_Decode.f a1).bind fun t205 => ((glyph_Clean.f t205).bind fun t206 => ((glyph_Fold.f t206).bind fun t207 => ((dress_tag.f a0).bind fun t208 => ((strings_Contains.f t207 t208).bind fun t209 => (if t209 = true then (some a1) else ((dress_tag.f a0).bind fun t210 => (if t210.size + 1 ≤ 9223372036854775807 then ((strings_Trim.f t206 (⟨#[32]⟩ : ByteArray)).bind fun t211 => (if (t210 ++ (⟨#[32]⟩ : ByteArray)).size + t211.size ≤ 9223372036854775807 then ((strings_TrimRight.f ((t210 ++ (⟨#[32]⟩ : ByteArray)) ++ t211) (⟨#[32]⟩ : ByteArray)).bind fun t212 => ((ew_Encode.f t212).bind fun t213 => (some t213))) else (none))) else (none))))))))) = some r := h
 clear h
 replace H := Option.bind_eq_some_iff.mp H
 obtain ⟨t205, A30, H⟩ := H
 replace H : ((glyph_Clean.f t205).bind fun t206 => ((glyph_Fold.f t206).bind fun t207 => ((dress_tag.f a0).bind fun t208 => ((strings_Contains.f t207 t208).bind fun t209 => (if t209 = true then (some a1) else ((dress_tag.f a0).bind fun t210 => (if t210.size + 1 ≤ 9223372036854775807 then ((strings_Trim.f t206 (⟨#[32]⟩ : ByteArray)).bind fun t211 => (if (t210 ++ (⟨#[32]⟩ : ByteArray)).size + t211.size ≤ 9223372036854775807 then ((strings_TrimRight.f ((t210 ++ (⟨#[32]⟩ : ByteArray)) ++ t211) (⟨#[32]⟩ : ByteArray)).bind fun t212 => ((ew_Encode.f t212).bind fun t213 => (some t213))) else (none))) else (none)))))))) = some r := H
 have A3 := Aside0.mk A30
 clear A30
 replace H := Option.bind_eq_some_iff.mp H
 obtain ⟨t206, A40, H⟩ := H
 replace H : ((glyph_Fold.f t206).bind fun t207 => ((dress_tag.f a0).bind fun t208 => ((strings_Contains.f t207 t208).bind fun t209 => (if t209 = true then (some a1) else ((dress_tag.f a0).bind fun t210 => (if t210.size + 1 ≤ 9223372036854775807 then ((strings_Trim.f t206 (⟨#[32]⟩ : ByteArray)).bind fun t211 => (if (t210 ++ (⟨#[32]⟩ : ByteArray)).size + t211.size ≤ 9223372036854775807 then ((strings_TrimRight.f ((t210 ++ (⟨#[32]⟩ : ByteArray)) ++ t211) (⟨#[32]⟩ : ByteArray)).bind fun t212 => ((ew_Encode.f t212).bind fun t213 => (some t213))) else (none))) else (none))))))) = some r := H
 have A4 := Aside0.mk A40
 clear A40
 replace H := Option.bind_eq_some_iff.mp H
 obtain ⟨t207, A50, H⟩ := H
 replace H : ((dress_tag.f a0).bind fun t208 => ((strings_Contains.f t207 t208).bind fun t209 => (if t209 = true then (some a1) else ((dress_tag.f a0).bind fun t210 => (if t210.size + 1 ≤ 9223372036854775807 then ((strings_Trim.f t206 (⟨#[32]⟩ : ByteArray)).bind fun t211 => (if (t210 ++ (⟨#[32]⟩ : ByteArray)).size + t211.size ≤ 9223372036854775807 then ((strings_TrimRight.f ((t210 ++ (⟨#[32]⟩ : ByteArray)) ++ t211) (⟨#[32]⟩ : ByteArray)).bind fun t212 => ((ew_Encode.f t212).bind fun t213 => (some t213))) else (none))) else (none)))))) = some r := H
 have A5 := Aside0.mk A50
 clear A50
 replace H := Option.bind_eq_some_iff.mp H
 obtain ⟨t208, A60, H⟩ := H
 replace H : ((strings_Contains.f t207 t208).bind fun t209 => (if t209 = true then (some a1) else ((dress_tag.f a0).bind fun t210 => (if t210.size + 1 ≤ 9223372036854775807 then ((strings_Trim.f t206 (⟨#[32]⟩ : ByteArray)).bind fun t211 => (if (t210 ++ (⟨#[32]⟩ : ByteArray)).size + t211.size ≤ 9223372036854775807 then ((strings_TrimRight.f ((t210 ++ (⟨#[32]⟩ : ByteArray)) ++ t211) (⟨#[32]⟩ : ByteArray)).bind fun t212 => ((ew_Encode.f t212).bind fun t213 => (some t213))) else (none))) else (none))))) = some r := H
 have A6 := Aside0.mk A60
 clear A60
 replace H := Option.bind_eq_some_iff.mp H
 obtain ⟨t209, A70, H⟩ := H
 replace H : (if t209 = true then (some a1) else ((dress_tag.f a0).bind fun t210 => (if t210.size + 1 ≤ 9223372036854775807 then ((strings_Trim.f t206 (⟨#[32]⟩ : ByteArray)).bind fun t211 => (if (t210 ++ (⟨#[32]⟩ : ByteArray)).size + t211.size ≤ 9223372036854775807 then ((strings_TrimRight.f ((t210 ++ (⟨#[32]⟩ : ByteArray)) ++ t211) (⟨#[32]⟩ : ByteArray)).bind fun t212 => ((ew_Encode.f t212).bind fun t213 => (some t213))) else (none))) else (none)))) = some r := H
 have A7 := Aside0.mk A70
 clear A70
 by_cases c8 : t209 = true
 ·subst c8
  have H1 : (some a1) = some r := by rw [if_pos rfl] at H; exact H
  clear H
  have H := H1
  clear H1
  obtain rfl := Option.some.inj H
  go_enter Tryz.func32, Tryz.ntmps32
  go_wp2_with (first | ((with_reducible refine gate_callee (f := 65) rfl ?_); refine goesL_ (some 7) rfl rfl Tryz.func65 (by kernel_rfl) rfl #[.string a1] rfl am ?_; (with_reducible refine (ew_Decode.calls (hG := by first | exact hG | exact Glob.below hG (by first | exact HB.out | (repeat (first | (with_reducible first | exact HB.out | apply below_alloc | apply pw_below_drewN | apply below_drew1) | exact HB.out))) | exact Glob.drawn hG (by repeat (first | exact Drawn0.refl _ | apply Drawn0.step))) a1 t205 _ A3.out).mono ?_); rintro e w9 ⟨rfl, hb⟩; refine ⟨_, rfl, ?_⟩; have n0_ := Aside0.mk (below_step bw hb); clear HB; have HB := n0_; clear n0_; (try clear hb); (try clear hb2); (try clear hk); (try clear hi)) | ((with_reducible refine gate_callee (f := 64) rfl ?_); refine goesL_ (some 8) rfl rfl Tryz.func64 (by kernel_rfl) rfl #[.string t205] rfl am ?_; (with_reducible refine (glyph_Clean.calls t205 t206 _ A4.out).mono ?_); rintro e w10 ⟨rfl, hb⟩; refine ⟨_, rfl, ?_⟩; have n0_ := Aside0.mk (below_step bw hb); clear HB; have HB := n0_; clear n0_; (try clear hb); (try clear hb2); (try clear hk); (try clear hi)) | ((with_reducible refine gate_callee (f := 48) rfl ?_); refine goesL_ (some 10) rfl rfl Tryz.func48 (by kernel_rfl) rfl #[.string t206] rfl am ?_; (with_reducible refine (glyph_Fold.calls t206 t207 _ A5.out).mono ?_); rintro e w11 ⟨rfl, hb⟩; refine ⟨_, rfl, ?_⟩; have n0_ := Aside0.mk (below_step bw hb); clear HB; have HB := n0_; clear n0_; (try clear hb); (try clear hb2); (try clear hk); (try clear hi)) | ((with_reducible refine gate_callee (f := 67) rfl ?_); refine goesL_ (some 12) rfl rfl Tryz.func67 (by kernel_rfl) rfl #[.string a0] rfl am ?_; (with_reducible refine (dress_tag.calls a0 t208 _ A6.out).mono ?_); rintro e w' ⟨rfl, ⟨nd, rfl⟩⟩; refine ⟨_, rfl, ?_⟩) | ((with_reducible refine gate_callee (f := 66) rfl ?_); refine goesL_ (some 13) rfl rfl Tryz.func66 (by kernel_rfl) rfl #[.string t207, .string t208] rfl am ?_; (with_reducible refine (strings_Contains.calls (hG := by first | exact hG | exact Glob.below hG (by first | exact HB.out | (repeat (first | (with_reducible first | exact HB.out | apply below_alloc | apply pw_below_drewN | apply below_drew1) | exact HB.out))) | exact Glob.drawn hG (by repeat (first | exact Drawn0.refl _ | apply Drawn0.step))) t207 t208 true _ A7.out).mono ?_); rintro e w12 ⟨rfl, hb⟩; refine ⟨_, rfl, ?_⟩; have n0_ := Aside0.mk (below_step bw hb); clear HB; have HB := n0_; clear n0_; (try clear hb); (try clear hb2); (try clear hk); (try clear hi)))
  go_ret
  exact ⟨by first | rfl | (simp [errW_none, errW_some] <;> rfl) | (simp [*, errW_none, errW_some] <;> rfl), bw⟩
 ·replace c8 := Bool.eq_false_iff.mpr c8
  subst c8
  have H1 : ((dress_tag.f a0).bind fun t210 => (if t210.size + 1 ≤ 9223372036854775807 then ((strings_Trim.f t206 (⟨#[32]⟩ : ByteArray)).bind fun t211 => (if (t210 ++ (⟨#[32]⟩ : ByteArray)).size + t211.size ≤ 9223372036854775807 then ((strings_TrimRight.f ((t210 ++ (⟨#[32]⟩ : ByteArray)) ++ t211) (⟨#[32]⟩ : ByteArray)).bind fun t212 => ((ew_Encode.f t212).bind fun t213 => (some t213))) else (none))) else (none))) = some r := by rw [if_neg (show ¬ (false = true) by decide)] at H; exact H
  clear H
  have H := H1
  clear H1
  replace H := Option.bind_eq_some_iff.mp H
  obtain ⟨t210, A130, H⟩ := H
  replace H : (if t210.size + 1 ≤ 9223372036854775807 then ((strings_Trim.f t206 (⟨#[32]⟩ : ByteArray)).bind fun t211 => (if (t210 ++ (⟨#[32]⟩ : ByteArray)).size + t211.size ≤ 9223372036854775807 then ((strings_TrimRight.f ((t210 ++ (⟨#[32]⟩ : ByteArray)) ++ t211) (⟨#[32]⟩ : ByteArray)).bind fun t212 => ((ew_Encode.f t212).bind fun t213 => (some t213))) else (none))) else (none)) = some r := H
  have A13 := Aside0.mk A130
  clear A130
  by_cases c14 : t210.size + 1 ≤ 9223372036854775807
  ·rw [if_pos c14] at H
   have c14b0 := eq_true c14
   have c14b1 : decide (t210.size + 1 ≤ 9223372036854775807) = true := decide_eq_true c14
   try have c14b2 : (9223372036854775807 < t210.size + 1) = False := eq_false (Nat.not_lt.2 c14)
   replace H := Option.bind_eq_some_iff.mp H
   obtain ⟨t211, A150, H⟩ := H
   replace H : (if (t210 ++ (⟨#[32]⟩ : ByteArray)).size + t211.size ≤ 9223372036854775807 then ((strings_TrimRight.f ((t210 ++ (⟨#[32]⟩ : ByteArray)) ++ t211) (⟨#[32]⟩ : ByteArray)).bind fun t212 => ((ew_Encode.f t212).bind fun t213 => (some t213))) else (none)) = some r := H
   have A15 := Aside0.mk A150
   clear A150
   by_cases c16 : (t210 ++ (⟨#[32]⟩ : ByteArray)).size + t211.size ≤ 9223372036854775807
   ·rw [if_pos c16] at H
    have c16b0 := eq_true c16
    have c16b1 : decide ((t210 ++ (⟨#[32]⟩ : ByteArray)).size + t211.size ≤ 9223372036854775807) = true := decide_eq_true c16
    try have c16b2 : (9223372036854775807 < (t210 ++ (⟨#[32]⟩ : ByteArray)).size + t211.size) = False := eq_false (Nat.not_lt.2 c16)
    try (have c16b3 := c16; simp only [ByteArray.size_append, size_lit, ByteArray.size_extract, List.size_toArray, List.length_cons, List.length_nil, Nat.zero_add, Nat.reduceAdd] at c16b3; have c16b4 := eq_false (Nat.not_lt.2 c16b3))
    replace H := Option.bind_eq_some_iff.mp H
    obtain ⟨t212, A170, H⟩ := H
    replace H : ((ew_Encode.f t212).bind fun t213 => (some t213)) = some r := H
    have A17 := Aside0.mk A170
    clear A170
    replace H := Option.bind_eq_some_iff.mp H
    obtain ⟨t213, A180, H⟩ := H
    replace H : (some t213) = some r := H
    have A18 := Aside0.mk A180
    clear A180
    obtain rfl := Option.some.inj H
    go_enter Tryz.func32, Tryz.ntmps32
    go_wp2_with (first | ((with_reducible refine gate_callee (f := 65) rfl ?_); refine goesL_ (some 7) rfl rfl Tryz.func65 (by kernel_rfl) rfl #[.string a1] rfl am ?_; (with_reducible refine (ew_Decode.calls (hG := by first | exact hG | exact Glob.below hG (by first | exact HB.out | (repeat (first | (with_reducible first | exact HB.out | apply below_alloc | apply pw_below_drewN | apply below_drew1) | exact HB.out))) | exact Glob.drawn hG (by repeat (first | exact Drawn0.refl _ | apply Drawn0.step))) a1 t205 _ A3.out).mono ?_); rintro e w19 ⟨rfl, hb⟩; refine ⟨_, rfl, ?_⟩; have n0_ := Aside0.mk (below_step bw hb); clear HB; have HB := n0_; clear n0_; (try clear hb); (try clear hb2); (try clear hk); (try clear hi)) | ((with_reducible refine gate_callee (f := 64) rfl ?_); refine goesL_ (some 8) rfl rfl Tryz.func64 (by kernel_rfl) rfl #[.string t205] rfl am ?_; (with_reducible refine (glyph_Clean.calls t205 t206 _ A4.out).mono ?_); rintro e w20 ⟨rfl, hb⟩; refine ⟨_, rfl, ?_⟩; have n0_ := Aside0.mk (below_step bw hb); clear HB; have HB := n0_; clear n0_; (try clear hb); (try clear hb2); (try clear hk); (try clear hi)) | ((with_reducible refine gate_callee (f := 48) rfl ?_); refine goesL_ (some 10) rfl rfl Tryz.func48 (by kernel_rfl) rfl #[.string t206] rfl am ?_; (with_reducible refine (glyph_Fold.calls t206 t207 _ A5.out).mono ?_); rintro e w21 ⟨rfl, hb⟩; refine ⟨_, rfl, ?_⟩; have n0_ := Aside0.mk (below_step bw hb); clear HB; have HB := n0_; clear n0_; (try clear hb); (try clear hb2); (try clear hk); (try clear hi)) | ((with_reducible refine gate_callee (f := 67) rfl ?_); refine goesL_ (some 12) rfl rfl Tryz.func67 (by kernel_rfl) rfl #[.string a0] rfl am ?_; (with_reducible refine (dress_tag.calls a0 t208 _ A6.out).mono ?_); rintro e w' ⟨rfl, ⟨nd, rfl⟩⟩; refine ⟨_, rfl, ?_⟩) | ((with_reducible refine gate_callee (f := 66) rfl ?_); refine goesL_ (some 13) rfl rfl Tryz.func66 (by kernel_rfl) rfl #[.string t207, .string t208] rfl am ?_; (with_reducible refine (strings_Contains.calls (hG := by first | exact hG | exact Glob.below hG (by first | exact HB.out | (repeat (first | (with_reducible first | exact HB.out | apply below_alloc | apply pw_below_drewN | apply below_drew1) | exact HB.out))) | exact Glob.drawn hG (by repeat (first | exact Drawn0.refl _ | apply Drawn0.step))) t207 t208 false _ A7.out).mono ?_); rintro e w22 ⟨rfl, hb⟩; refine ⟨_, rfl, ?_⟩; have n0_ := Aside0.mk (below_step bw hb); clear HB; have HB := n0_; clear n0_; (try clear hb); (try clear hb2); (try clear hk); (try clear hi)) | ((with_reducible refine gate_callee (f := 67) rfl ?_); refine goesL_ (some 16) rfl rfl Tryz.func67 (by kernel_rfl) rfl #[.string a0] rfl am ?_; (with_reducible refine (dress_tag.calls a0 t210 _ A13.out).mono ?_); rintro e w' ⟨rfl, ⟨nd, rfl⟩⟩; refine ⟨_, rfl, ?_⟩) | ((with_reducible refine gate_callee (f := 70) rfl ?_); refine goesL_ (some 19) rfl rfl Tryz.func70 (by kernel_rfl) rfl #[.string t206, .string (⟨#[32]⟩ : ByteArray)] rfl am ?_; (with_reducible refine (strings_Trim.calls t206 (⟨#[32]⟩ : ByteArray) t211 _ A15.out).mono ?_); rintro e w23 ⟨rfl, hb⟩; refine ⟨_, rfl, ?_⟩; have n0_ := Aside0.mk (below_step bw hb); clear HB; have HB := n0_; clear n0_; (try clear hb); (try clear hb2); (try clear hk); (try clear hi)) | ((with_reducible refine gate_callee (f := 69) rfl ?_); refine goesL_ (some 21) rfl rfl Tryz.func69 (by kernel_rfl) rfl #[.string ((t210 ++ (⟨#[32]⟩ : ByteArray)) ++ t211), .string (⟨#[32]⟩ : ByteArray)] rfl am ?_; (with_reducible refine (strings_TrimRight.calls ((t210 ++ (⟨#[32]⟩ : ByteArray)) ++ t211) (⟨#[32]⟩ : ByteArray) t212 _ A17.out).mono ?_); rintro e w24 ⟨rfl, hb⟩; refine ⟨_, rfl, ?_⟩; have n0_ := Aside0.mk (below_step bw hb); clear HB; have HB := n0_; clear n0_; (try clear hb); (try clear hb2); (try clear hk); (try clear hi)) | ((with_reducible refine gate_callee (f := 68) rfl ?_); refine goesL_ (some 22) rfl rfl Tryz.func68 (by kernel_rfl) rfl #[.string t212] rfl am ?_; (with_reducible refine (ew_Encode.calls (hG := by first | exact hG | exact Glob.below hG (by first | exact HB.out | (repeat (first | (with_reducible first | exact HB.out | apply below_alloc | apply pw_below_drewN | apply below_drew1) | exact HB.out))) | exact Glob.drawn hG (by repeat (first | exact Drawn0.refl _ | apply Drawn0.step))) t212 t213 _ A18.out).mono ?_); rintro e w25 ⟨rfl, hb⟩; refine ⟨_, rfl, ?_⟩; have n0_ := Aside0.mk (below_step bw hb); clear HB; have HB := n0_; clear n0_; (try clear hb); (try clear hb2); (try clear hk); (try clear hi)))
    go_ret
    exact ⟨by first | rfl | (simp [errW_none, errW_some] <;> rfl) | (simp [*, errW_none, errW_some] <;> rfl), bw⟩
   ·rw [if_neg c16] at H
    exact absurd H (by simp)
  ·rw [if_neg c14] at H
   exact absurd H (by simp)

end Go.Proofs.YtihabmcaplnbcaaGreatDoor.Fn
namespace Go.Proofs.YtihabmcaplnbcaaGreatDoor.Fn
open Go.RowKit Go.Proofs.YtihabmcaplnbcaaGreatDoorW.PrintWords Go.Proofs.YtihabmcaplnbcaaGreatDoorW.PrintLast Go.Proofs.YtihabmcaplnbcaaGreatDoorW.PrintMore
attribute [local go_sem] max2_int min2_int max_two min_two max_three min_three max_four min_four
set_option linter.unusedVariables false
set_option linter.unusedSimpArgs false

/-! ### bulletinlaw36_works: function 8 -/
def bulletinlaw36_works.f  : Option (Bool) := (dress_Subject.f (⟨#[100, 101, 118]⟩ : ByteArray) (⟨#[82, 101, 58, 32, 104, 105]⟩ : ByteArray)).bind fun t214 => (if t214.toList = ([91, 100, 101, 118, 93, 32, 82, 101, 58, 32, 104, 105] : List UInt8) then ((dress_Subject.f (⟨#[100, 101, 118]⟩ : ByteArray) t214).bind fun t215 => (some (t215.toList == t214.toList))) else (some false))
set_option maxHeartbeats 8000000 in
set_option maxRecDepth 100000 in
theorem bulletinlaw36_works.calls  (r : Bool) (w : World) (hG : Glob w) (h : bulletinlaw36_works.f  = some r) :
  Calls Tryz.prog 8 #[] w fun e w' => e = .returned (.bool r) ∧ Below w.heap.size w w' := by
 have HB := Aside0.mk (Below.refl w.heap.size w)
 have H : ((dress_Subject.f (⟨#[100, 101, 118]⟩ : ByteArray) (⟨#[82, 101, 58, 32, 104, 105]⟩ : ByteArray)).bind fun t214 => (if t214.toList = ([91, 100, 101, 118, 93, 32, 82, 101, 58, 32, 104, 105] : List UInt8) then ((dress_Subject.f (⟨#[100, 101, 118]⟩ : ByteArray) t214).bind fun t215 => (some (t215.toList == t214.toList))) else (some false))) = some r := h
 clear h
 replace H := Option.bind_eq_some_iff.mp H
 obtain ⟨t214, A10, H⟩ := H
 replace H : (if t214.toList = ([91, 100, 101, 118, 93, 32, 82, 101, 58, 32, 104, 105] : List UInt8) then ((dress_Subject.f (⟨#[100, 101, 118]⟩ : ByteArray) t214).bind fun t215 => (some (t215.toList == t214.toList))) else (some false)) = some r := H
 have A1 := Aside0.mk A10
 clear A10
 by_cases c2 : t214.toList = ([91, 100, 101, 118, 93, 32, 82, 101, 58, 32, 104, 105] : List UInt8)
 ·rw [if_pos c2] at H
  have c2b0 : (t214.toList == ([91, 100, 101, 118, 93, 32, 82, 101, 58, 32, 104, 105] : List UInt8)) = true := beq_iff_eq.mpr c2
  have c2b1 : (t214.toList != ([91, 100, 101, 118, 93, 32, 82, 101, 58, 32, 104, 105] : List UInt8)) = false := bne_eq_false_iff_eq.mpr c2
  clear c2
  replace H := Option.bind_eq_some_iff.mp H
  obtain ⟨t215, A30, H⟩ := H
  replace H : (some (t215.toList == t214.toList)) = some r := H
  have A3 := Aside0.mk A30
  clear A30
  obtain rfl := Option.some.inj H
  go_enter Tryz.func8, Tryz.ntmps8
  go_wp2_with (first | ((with_reducible refine gate_callee (f := 32) rfl ?_); refine goesL_ (some 2) rfl rfl Tryz.func32 (by kernel_rfl) rfl #[.string (⟨#[100, 101, 118]⟩ : ByteArray), .string (⟨#[82, 101, 58, 32, 104, 105]⟩ : ByteArray)] rfl am ?_; (with_reducible refine (dress_Subject.calls (hG := by first | exact hG | exact Glob.below hG (by first | exact HB.out | (repeat (first | (with_reducible first | exact HB.out | apply below_alloc | apply pw_below_drewN | apply below_drew1) | exact HB.out))) | exact Glob.drawn hG (by repeat (first | exact Drawn0.refl _ | apply Drawn0.step))) (⟨#[100, 101, 118]⟩ : ByteArray) (⟨#[82, 101, 58, 32, 104, 105]⟩ : ByteArray) t214 _ A1.out).mono ?_); rintro e w4 ⟨rfl, hb⟩; refine ⟨_, rfl, ?_⟩; have n0_ := Aside0.mk (below_step bw hb); clear HB; have HB := n0_; clear n0_; (try clear hb); (try clear hb2); (try clear hk); (try clear hi)) | (go_at_call 32; (with_reducible refine (dress_Subject.calls (hG := by first | exact hG | exact Glob.below hG (by first | exact HB.out | (repeat (first | (with_reducible first | exact HB.out | apply below_alloc | apply pw_below_drewN | apply below_drew1) | exact HB.out))) | exact Glob.drawn hG (by repeat (first | exact Drawn0.refl _ | apply Drawn0.step))) (⟨#[100, 101, 118]⟩ : ByteArray) t214 t215 _ A3.out).mono ?_); rintro e w5 ⟨rfl, hb⟩; have n0_ := Aside0.mk (below_step bw hb); clear HB; have HB := n0_; clear n0_; (try clear hb); (try clear hb2); (try clear hk); (try clear hi)))
  go_ret
  exact ⟨by first | rfl | (simp [errW_none, errW_some] <;> rfl) | (simp [*, errW_none, errW_some] <;> rfl), bw⟩
 ·rw [if_neg c2] at H
  have c2b0 : (t214.toList == ([91, 100, 101, 118, 93, 32, 82, 101, 58, 32, 104, 105] : List UInt8)) = false := beq_eq_false_iff_ne.mpr c2
  have c2b1 : (t214.toList != ([91, 100, 101, 118, 93, 32, 82, 101, 58, 32, 104, 105] : List UInt8)) = true := bne_iff_ne.mpr c2
  obtain rfl := Option.some.inj H
  go_enter Tryz.func8, Tryz.ntmps8
  go_wp2_with (first | ((with_reducible refine gate_callee (f := 32) rfl ?_); refine goesL_ (some 2) rfl rfl Tryz.func32 (by kernel_rfl) rfl #[.string (⟨#[100, 101, 118]⟩ : ByteArray), .string (⟨#[82, 101, 58, 32, 104, 105]⟩ : ByteArray)] rfl am ?_; (with_reducible refine (dress_Subject.calls (hG := by first | exact hG | exact Glob.below hG (by first | exact HB.out | (repeat (first | (with_reducible first | exact HB.out | apply below_alloc | apply pw_below_drewN | apply below_drew1) | exact HB.out))) | exact Glob.drawn hG (by repeat (first | exact Drawn0.refl _ | apply Drawn0.step))) (⟨#[100, 101, 118]⟩ : ByteArray) (⟨#[82, 101, 58, 32, 104, 105]⟩ : ByteArray) t214 _ A1.out).mono ?_); rintro e w6 ⟨rfl, hb⟩; refine ⟨_, rfl, ?_⟩; have n0_ := Aside0.mk (below_step bw hb); clear HB; have HB := n0_; clear n0_; (try clear hb); (try clear hb2); (try clear hk); (try clear hi)))
  go_ret
  exact ⟨by first | rfl | (simp [errW_none, errW_some] <;> rfl) | (simp [*, errW_none, errW_some] <;> rfl), bw⟩

end Go.Proofs.YtihabmcaplnbcaaGreatDoor.Fn
namespace Go.Proofs.YtihabmcaplnbcaaGreatDoor.Fn
open Go.RowKit Go.Proofs.YtihabmcaplnbcaaGreatDoorW.PrintWords Go.Proofs.YtihabmcaplnbcaaGreatDoorW.PrintLast Go.Proofs.YtihabmcaplnbcaaGreatDoorW.PrintMore
attribute [local go_sem] max2_int min2_int max_two min_two max_three min_three max_four min_four
set_option linter.unusedVariables false
set_option linter.unusedSimpArgs false

/-! ### bulletinref12_Text: function 131 -/
def bulletinref12_Text.f (a0 : Int) : Option (Bool) := if a0 = 9 then (some true) else (if a0 ≥ 32 then (if a0 ≤ 126 then (some true) else (some (decide (a0 > 127)))) else (some (decide (a0 > 127))))
set_option maxHeartbeats 8000000 in
set_option maxRecDepth 100000 in
theorem bulletinref12_Text.calls (a0 : Int) (r : Bool) (w : World) (h : bulletinref12_Text.f a0 = some r) :
  Calls Tryz.prog 131 #[.int .u8 a0] w fun e w' => e = .returned (.bool r) ∧ Drawn0 w w' := by
 have H : (if a0 = 9 then (some true) else (if a0 ≥ 32 then (if a0 ≤ 126 then (some true) else (some (decide (a0 > 127)))) else (some (decide (a0 > 127))))) = some r := h
 clear h
 by_cases c2 : a0 = 9
 ·rw [if_pos c2] at H
  have c2b0 : (a0 == 9) = true := beq_iff_eq.mpr c2
  have c2b1 : (a0 != 9) = false := bne_eq_false_iff_eq.mpr c2
  clear c2
  obtain rfl := Option.some.inj H
  go_enter Tryz.func131, Tryz.ntmps131
  go_wp2
  go_ret
  exact ⟨by first | rfl | (simp; done) | (simp [*]; done) | (simp [nil_ne]; done) | (simp [u8_w, i64w_]; done) | (simp [size_lit]; done) | (simp; unfold wrap64; omega), by repeat (first | exact Drawn0.refl _ | apply Drawn0.step)⟩
 ·rw [if_neg c2] at H
  have c2b0 : (a0 == 9) = false := beq_eq_false_iff_ne.mpr c2
  have c2b1 : (a0 != 9) = true := bne_iff_ne.mpr c2
  by_cases c3 : a0 ≥ 32
  ·rw [if_pos c3] at H
   have c3b0 : decide (32 ≤ a0) = true := decide_eq_true c3
   clear c3
   by_cases c4 : a0 ≤ 126
   ·rw [if_pos c4] at H
    have c4b0 : decide (a0 ≤ 126) = true := decide_eq_true c4
    clear c4
    obtain rfl := Option.some.inj H
    go_enter Tryz.func131, Tryz.ntmps131
    go_wp2
    go_ret
    exact ⟨by first | rfl | (simp; done) | (simp [*]; done) | (simp [nil_ne]; done) | (simp [u8_w, i64w_]; done) | (simp [size_lit]; done) | (simp; unfold wrap64; omega), by repeat (first | exact Drawn0.refl _ | apply Drawn0.step)⟩
   ·rw [if_neg c4] at H
    have c4b0 : decide (a0 ≤ 126) = false := decide_eq_false c4
    clear c4
    obtain rfl := Option.some.inj H
    go_enter Tryz.func131, Tryz.ntmps131
    go_wp2
    go_ret
    exact ⟨by first | rfl | (simp; done) | (simp [*]; done) | (simp [nil_ne]; done) | (simp [u8_w, i64w_]; done) | (simp [size_lit]; done) | (simp; unfold wrap64; omega), by repeat (first | exact Drawn0.refl _ | apply Drawn0.step)⟩
  ·rw [if_neg c3] at H
   have c3b0 : decide (32 ≤ a0) = false := decide_eq_false c3
   clear c3
   obtain rfl := Option.some.inj H
   go_enter Tryz.func131, Tryz.ntmps131
   go_wp2
   go_ret
   exact ⟨by first | rfl | (simp; done) | (simp [*]; done) | (simp [nil_ne]; done) | (simp [u8_w, i64w_]; done) | (simp [size_lit]; done) | (simp; unfold wrap64; omega), by repeat (first | exact Drawn0.refl _ | apply Drawn0.step)⟩

end Go.Proofs.YtihabmcaplnbcaaGreatDoor.Fn
namespace Go.Proofs.YtihabmcaplnbcaaGreatDoor.Fn
open Go.RowKit Go.Proofs.YtihabmcaplnbcaaGreatDoorW.PrintWords Go.Proofs.YtihabmcaplnbcaaGreatDoorW.PrintLast Go.Proofs.YtihabmcaplnbcaaGreatDoorW.PrintMore
attribute [local go_sem] max2_int min2_int max_two min_two max_three min_three max_four min_four
set_option linter.unusedVariables false
set_option linter.unusedSimpArgs false

/-! ### bulletinref12_Quote: function 122 -/
mutual
def bulletinref12_Quote.l0 : Nat → ByteArray → ByteArray → Int → Option (ByteArray)
 | 0, _, _, _ => none
 | k + 1, x0, x3, x4 => if x4 < (x0.size : Int) then (if 0 ≤ x4 then (if x4 ≤ (wrap64 (x4 + 1)) then (if (wrap64 (x4 + 1)) ≤ (x0.size : Int) then (if (bt x0 x4) = 34 then (bulletinref12_Quote.j1 k x0 x3 x4 (x0.extract (x4 : Int).toNat ((wrap64 (x4 + 1)) : Int).toNat) true) else (bulletinref12_Quote.j1 k x0 x3 x4 (x0.extract (x4 : Int).toNat ((wrap64 (x4 + 1)) : Int).toNat) ((bt x0 x4) == 92))) else (none)) else (none)) else (none)) else (if 1 + x3.size ≤ 9223372036854775807 then (if ((⟨#[34]⟩ : ByteArray) ++ x3).size + 1 ≤ 9223372036854775807 then (some (((⟨#[34]⟩ : ByteArray) ++ x3) ++ (⟨#[34]⟩ : ByteArray))) else (none)) else (none))
def bulletinref12_Quote.j1 : Nat → ByteArray → ByteArray → Int → ByteArray → Bool → Option (ByteArray)
 | 0, _, _, _, _, _ => none
 | k + 1, x0, x3, x4, x5, x26 => if x26 = true then (if 1 + x5.size ≤ 9223372036854775807 then (if 0 ≤ x4 then (if x4 < (x0.size : Int) then ((bulletinref12_Text.f (bt x0 x4)).bind fun t306 => (if t306 = true then (if x3.size + ((⟨#[92]⟩ : ByteArray) ++ x5).size ≤ 9223372036854775807 then (bulletinref12_Quote.l0 k x0 (x3 ++ ((⟨#[92]⟩ : ByteArray) ++ x5)) (wrap64 (x4 + 1))) else (none)) else (if x3.size + 1 ≤ 9223372036854775807 then (bulletinref12_Quote.l0 k x0 (x3 ++ (⟨#[32]⟩ : ByteArray)) (wrap64 (x4 + 1))) else (none)))) else (none)) else (none)) else (none)) else (if 0 ≤ x4 then (if x4 < (x0.size : Int) then ((bulletinref12_Text.f (bt x0 x4)).bind fun t307 => (if t307 = true then (if x3.size + x5.size ≤ 9223372036854775807 then (bulletinref12_Quote.l0 k x0 (x3 ++ x5) (wrap64 (x4 + 1))) else (none)) else (if x3.size + 1 ≤ 9223372036854775807 then (bulletinref12_Quote.l0 k x0 (x3 ++ (⟨#[32]⟩ : ByteArray)) (wrap64 (x4 + 1))) else (none)))) else (none)) else (none))
end
def bulletinref12_Quote.f (k : Nat) (a0 : ByteArray) : Option (ByteArray) := bulletinref12_Quote.l0 k a0 (⟨#[]⟩ : ByteArray) 0
set_option maxHeartbeats 8000000 in
set_option maxRecDepth 100000 in
theorem bulletinref12_Quote.calls (k : Nat) (a0 : ByteArray) (r : ByteArray) (w : World) (h : bulletinref12_Quote.f k a0 = some r) :
  Calls Tryz.prog 122 #[.string a0] w fun e w' => e = .returned (.string r) ∧ Drawn0 w w' := by
 have H : (bulletinref12_Quote.l0 k a0 (⟨#[]⟩ : ByteArray) 0) = some r := h
 clear h
 have H' := Aside0.mk H
 clear H
 go_enter Tryz.func122, Tryz.ntmps122
 go_wp2
 go_loopg [3, 4] k (fun kq v3 v4 w' => ∃ (x3_1 : ByteArray) (x4_1 : Int), v3 = .string x3_1 ∧ v4 = .int .i64 x4_1 ∧ Aside0 (bulletinref12_Quote.l0 kq a0 x3_1 x4_1 = some r) ∧ Aside0 (kq ≤ k) ∧ Drawn0 w w')
 case atStart => exact ⟨((⟨#[]⟩ : ByteArray)), (0), cl, cl, H', ⟨Nat.le_refl _⟩, by repeat (first | exact Drawn0.refl _ | apply Drawn0.step)⟩
 case round =>
  clear H'
  try clear c1
  obtain ⟨x3_1, x4_1, rfl, rfl, HA, HK1, ⟨m1, rfl⟩⟩ := hrel
  cases gk with
  | zero => exact absurd HA.out (by simp [bulletinref12_Quote.l0])
  | succ k1 =>
   have H := HA.out
   clear HA
   simp only [bulletinref12_Quote.l0] at H
   by_cases c2 : x4_1 < (a0.size : Int)
   ·rw [if_pos c2] at H
    have c2b0 : decide (x4_1 < (a0.size : Int)) = true := decide_eq_true c2
    clear c2
    by_cases c3 : 0 ≤ x4_1
    ·rw [if_pos c3] at H
     have c3b0 := eq_true c3
     have c3b1 : decide (0 ≤ x4_1) = true := decide_eq_true c3
     clear c3
     by_cases c4 : x4_1 ≤ (wrap64 (x4_1 + 1))
     ·rw [if_pos c4] at H
      have c4b0 := eq_true c4
      have c4b1 : decide (x4_1 ≤ (wrap64 (x4_1 + 1))) = true := decide_eq_true c4
      by_cases c5 : (wrap64 (x4_1 + 1)) ≤ (a0.size : Int)
      ·rw [if_pos c5] at H
       have c5b0 := eq_true c5
       have c5b1 : decide ((wrap64 (x4_1 + 1)) ≤ (a0.size : Int)) = true := decide_eq_true c5
       have HC6 := Aside0.mk H
       clear H
       go_upto_region 6 with (fail)
       go_cut [26] (fun v26 wc => ∃ (kq : Nat) (x26_5 : Bool), v26 = .bool x26_5 ∧ Aside0 (bulletinref12_Quote.j1 kq a0 x3_1 x4_1 (a0.extract (x4_1 : Int).toNat ((wrap64 (x4_1 + 1)) : Int).toNat) x26_5 = some r) ∧ Aside0 (kq ≤ k1) ∧ Drawn0 w wc)
       case first =>
        have H := HC6.out
        clear HC6
        by_cases c8 : (bt a0 x4_1) = 34
        ·rw [if_pos c8] at H
         have c8b0 : ((bt a0 x4_1) == 34) = true := beq_iff_eq.mpr c8
         have c8b1 : ((bt a0 x4_1) != 34) = false := bne_eq_false_iff_eq.mpr c8
         clear c8
         (first | rw [c8b0] | (simp only [i64_w, i32_w]; rw [c8b0]) | skip)
         have H' := Aside0.mk H
         clear H
         have p7 : 0 ≤ (x4_1 : Int) := od
         have q7 : x4_1 < (a0.size : Int) := od
         have hx7 := bt_at a0 x4_1
         replace p7 := eq_true p7
         replace q7 := eq_true q7
         go_wp2
         go_meet
         case rel => exact ⟨_, (true), cl, H', ⟨by have := HK1.out; first | omega | exact Nat.le_refl _⟩, by repeat (first | exact Drawn0.refl _ | apply Drawn0.step)⟩
        ·rw [if_neg c8] at H
         have c8b0 : ((bt a0 x4_1) == 34) = false := beq_eq_false_iff_ne.mpr c8
         have c8b1 : ((bt a0 x4_1) != 34) = true := bne_iff_ne.mpr c8
         (first | rw [c8b0] | (simp only [i64_w, i32_w]; rw [c8b0]) | skip)
         have H' := Aside0.mk H
         clear H
         have p7 : 0 ≤ (x4_1 : Int) := od
         have q7 : x4_1 < (a0.size : Int) := od
         have hx7 := bt_at a0 x4_1
         replace p7 := eq_true p7
         replace q7 := eq_true q7
         have p9 : 0 ≤ (x4_1 : Int) := od
         have q9 : x4_1 < (a0.size : Int) := od
         have hx9 := bt_at a0 x4_1
         replace p9 := eq_true p9
         replace q9 := eq_true q9
         go_wp2
         go_meet
         case rel => exact ⟨_, (((bt a0 x4_1) == 92)), cl, H', ⟨by have := HK1.out; first | omega | exact Nat.le_refl _⟩, by repeat (first | exact Drawn0.refl _ | apply Drawn0.step)⟩
       case rest =>
        clear HC6
        try clear c1
        try clear c2
        try clear c2b0
        try clear p2
        try clear c3
        try clear c3b0
        try clear c3b1
        try clear c4
        try clear c4b0
        try clear c4b1
        try clear c5
        try clear c5b0
        try clear c5b1
        try clear p6
        try clear p7
        try clear q7
        try clear hx7
        try clear c8
        try clear c8b0
        try clear c8b1
        try clear p9
        try clear q9
        try clear hx9
        try clear p7
        try clear p9
        try clear q7
        try clear q9
        obtain ⟨kq, x26_5, rfl, HA, HJ5, ⟨mc5, rfl⟩⟩ := hcut
        cases kq with
        | zero => exact absurd HA.out (by simp [bulletinref12_Quote.j1])
        | succ kj5 =>
         have H := HA.out
         clear HA
         simp only [bulletinref12_Quote.j1] at H
         by_cases c10 : x26_5 = true
         ·subst c10
          have H1 : (if 1 + (a0.extract (x4_1 : Int).toNat ((wrap64 (x4_1 + 1)) : Int).toNat).size ≤ 9223372036854775807 then (if 0 ≤ x4_1 then (if x4_1 < (a0.size : Int) then ((bulletinref12_Text.f (bt a0 x4_1)).bind fun t306 => (if t306 = true then (if x3_1.size + ((⟨#[92]⟩ : ByteArray) ++ (a0.extract (x4_1 : Int).toNat ((wrap64 (x4_1 + 1)) : Int).toNat)).size ≤ 9223372036854775807 then (bulletinref12_Quote.l0 kj5 a0 (x3_1 ++ ((⟨#[92]⟩ : ByteArray) ++ (a0.extract (x4_1 : Int).toNat ((wrap64 (x4_1 + 1)) : Int).toNat))) (wrap64 (x4_1 + 1))) else (none)) else (if x3_1.size + 1 ≤ 9223372036854775807 then (bulletinref12_Quote.l0 kj5 a0 (x3_1 ++ (⟨#[32]⟩ : ByteArray)) (wrap64 (x4_1 + 1))) else (none)))) else (none)) else (none)) else (none)) = some r := by rw [if_pos rfl] at H; exact H
          clear H
          have H := H1
          clear H1
          by_cases c11 : 1 + (a0.extract (x4_1 : Int).toNat ((wrap64 (x4_1 + 1)) : Int).toNat).size ≤ 9223372036854775807
          ·rw [if_pos c11] at H
           have c11b0 := eq_true c11
           have c11b1 : decide (1 + (a0.extract (x4_1 : Int).toNat ((wrap64 (x4_1 + 1)) : Int).toNat).size ≤ 9223372036854775807) = true := decide_eq_true c11
           try have c11b2 : (9223372036854775807 < 1 + (a0.extract (x4_1 : Int).toNat ((wrap64 (x4_1 + 1)) : Int).toNat).size) = False := eq_false (Nat.not_lt.2 c11)
           try (have c11b3 := c11; simp only [ByteArray.size_append, size_lit, ByteArray.size_extract, List.size_toArray, List.length_cons, List.length_nil, Nat.zero_add, Nat.reduceAdd] at c11b3; have c11b4 := eq_false (Nat.not_lt.2 c11b3))
           by_cases c12 : 0 ≤ x4_1
           ·rw [if_pos c12] at H
            have c12b0 : decide (0 ≤ x4_1) = true := decide_eq_true c12
            clear c12
            by_cases c13 : x4_1 < (a0.size : Int)
            ·rw [if_pos c13] at H
             have c13b0 : decide (x4_1 < (a0.size : Int)) = true := decide_eq_true c13
             clear c13
             replace H := Option.bind_eq_some_iff.mp H
             obtain ⟨t306, A150, H⟩ := H
             replace H : (if t306 = true then (if x3_1.size + ((⟨#[92]⟩ : ByteArray) ++ (a0.extract (x4_1 : Int).toNat ((wrap64 (x4_1 + 1)) : Int).toNat)).size ≤ 9223372036854775807 then (bulletinref12_Quote.l0 kj5 a0 (x3_1 ++ ((⟨#[92]⟩ : ByteArray) ++ (a0.extract (x4_1 : Int).toNat ((wrap64 (x4_1 + 1)) : Int).toNat))) (wrap64 (x4_1 + 1))) else (none)) else (if x3_1.size + 1 ≤ 9223372036854775807 then (bulletinref12_Quote.l0 kj5 a0 (x3_1 ++ (⟨#[32]⟩ : ByteArray)) (wrap64 (x4_1 + 1))) else (none))) = some r := H
             have A15 := Aside0.mk A150
             clear A150
             by_cases c16 : t306 = true
             ·subst c16
              have H1 : (if x3_1.size + ((⟨#[92]⟩ : ByteArray) ++ (a0.extract (x4_1 : Int).toNat ((wrap64 (x4_1 + 1)) : Int).toNat)).size ≤ 9223372036854775807 then (bulletinref12_Quote.l0 kj5 a0 (x3_1 ++ ((⟨#[92]⟩ : ByteArray) ++ (a0.extract (x4_1 : Int).toNat ((wrap64 (x4_1 + 1)) : Int).toNat))) (wrap64 (x4_1 + 1))) else (none)) = some r := by rw [if_pos rfl] at H; exact H
              clear H
              have H := H1
              clear H1
              by_cases c17 : x3_1.size + ((⟨#[92]⟩ : ByteArray) ++ (a0.extract (x4_1 : Int).toNat ((wrap64 (x4_1 + 1)) : Int).toNat)).size ≤ 9223372036854775807
              ·rw [if_pos c17] at H
               have c17b0 := eq_true c17
               have c17b1 : decide (x3_1.size + ((⟨#[92]⟩ : ByteArray) ++ (a0.extract (x4_1 : Int).toNat ((wrap64 (x4_1 + 1)) : Int).toNat)).size ≤ 9223372036854775807) = true := decide_eq_true c17
               try have c17b2 : (9223372036854775807 < x3_1.size + ((⟨#[92]⟩ : ByteArray) ++ (a0.extract (x4_1 : Int).toNat ((wrap64 (x4_1 + 1)) : Int).toNat)).size) = False := eq_false (Nat.not_lt.2 c17)
               try (have c17b3 := c17; simp only [ByteArray.size_append, size_lit, ByteArray.size_extract, List.size_toArray, List.length_cons, List.length_nil, Nat.zero_add, Nat.reduceAdd] at c17b3; have c17b4 := eq_false (Nat.not_lt.2 c17b3))
               have H' := Aside0.mk H
               clear H
               have p14 : 0 ≤ (x4_1 : Int) := od
               have q14 : x4_1 < (a0.size : Int) := od
               have hx14 := bt_at a0 x4_1
               replace p14 := eq_true p14
               replace q14 := eq_true q14
               go_wp2_with (first | ((with_reducible refine gate_callee (f := 131) rfl ?_); refine goesL_ (some 32) rfl rfl Tryz.func131 (by kernel_rfl) rfl #[.int .u8 (bt a0 x4_1)] rfl am ?_; (with_reducible refine (bulletinref12_Text.calls (bt a0 x4_1) true _ A15.out).mono ?_); rintro e w' ⟨rfl, ⟨nd, rfl⟩⟩; refine ⟨_, rfl, ?_⟩))
               go_roundg kj5
               case measure => have := HK1.out; have := HJ5.out; omega
               case rel => exact ⟨(x3_1 ++ ((⟨#[92]⟩ : ByteArray) ++ (a0.extract (x4_1 : Int).toNat ((wrap64 (x4_1 + 1)) : Int).toNat))), (wrap64 (x4_1 + 1)), cl, cl, H', ⟨by have := HK1.out; have := HJ5.out; omega⟩, by repeat (first | exact Drawn0.refl _ | apply Drawn0.step)⟩
              ·rw [if_neg c17] at H
               exact absurd H (by simp)
             ·replace c16 := Bool.eq_false_iff.mpr c16
              subst c16
              have H1 : (if x3_1.size + 1 ≤ 9223372036854775807 then (bulletinref12_Quote.l0 kj5 a0 (x3_1 ++ (⟨#[32]⟩ : ByteArray)) (wrap64 (x4_1 + 1))) else (none)) = some r := by rw [if_neg (show ¬ (false = true) by decide)] at H; exact H
              clear H
              have H := H1
              clear H1
              by_cases c18 : x3_1.size + 1 ≤ 9223372036854775807
              ·rw [if_pos c18] at H
               have c18b0 := eq_true c18
               have c18b1 : decide (x3_1.size + 1 ≤ 9223372036854775807) = true := decide_eq_true c18
               try have c18b2 : (9223372036854775807 < x3_1.size + 1) = False := eq_false (Nat.not_lt.2 c18)
               have H' := Aside0.mk H
               clear H
               have p14 : 0 ≤ (x4_1 : Int) := od
               have q14 : x4_1 < (a0.size : Int) := od
               have hx14 := bt_at a0 x4_1
               replace p14 := eq_true p14
               replace q14 := eq_true q14
               go_wp2_with (first | ((with_reducible refine gate_callee (f := 131) rfl ?_); refine goesL_ (some 32) rfl rfl Tryz.func131 (by kernel_rfl) rfl #[.int .u8 (bt a0 x4_1)] rfl am ?_; (with_reducible refine (bulletinref12_Text.calls (bt a0 x4_1) false _ A15.out).mono ?_); rintro e w' ⟨rfl, ⟨nd, rfl⟩⟩; refine ⟨_, rfl, ?_⟩))
               go_roundg kj5
               case measure => have := HK1.out; have := HJ5.out; omega
               case rel => exact ⟨(x3_1 ++ (⟨#[32]⟩ : ByteArray)), (wrap64 (x4_1 + 1)), cl, cl, H', ⟨by have := HK1.out; have := HJ5.out; omega⟩, by repeat (first | exact Drawn0.refl _ | apply Drawn0.step)⟩
              ·rw [if_neg c18] at H
               exact absurd H (by simp)
            ·rw [if_neg c13] at H
             exact absurd H (by simp)
           ·rw [if_neg c12] at H
            exact absurd H (by simp)
          ·rw [if_neg c11] at H
           exact absurd H (by simp)
         ·replace c10 := Bool.eq_false_iff.mpr c10
          subst c10
          have H1 : (if 0 ≤ x4_1 then (if x4_1 < (a0.size : Int) then ((bulletinref12_Text.f (bt a0 x4_1)).bind fun t307 => (if t307 = true then (if x3_1.size + (a0.extract (x4_1 : Int).toNat ((wrap64 (x4_1 + 1)) : Int).toNat).size ≤ 9223372036854775807 then (bulletinref12_Quote.l0 kj5 a0 (x3_1 ++ (a0.extract (x4_1 : Int).toNat ((wrap64 (x4_1 + 1)) : Int).toNat)) (wrap64 (x4_1 + 1))) else (none)) else (if x3_1.size + 1 ≤ 9223372036854775807 then (bulletinref12_Quote.l0 kj5 a0 (x3_1 ++ (⟨#[32]⟩ : ByteArray)) (wrap64 (x4_1 + 1))) else (none)))) else (none)) else (none)) = some r := by rw [if_neg (show ¬ (false = true) by decide)] at H; exact H
          clear H
          have H := H1
          clear H1
          by_cases c19 : 0 ≤ x4_1
          ·rw [if_pos c19] at H
           have c19b0 : decide (0 ≤ x4_1) = true := decide_eq_true c19
           clear c19
           by_cases c20 : x4_1 < (a0.size : Int)
           ·rw [if_pos c20] at H
            have c20b0 : decide (x4_1 < (a0.size : Int)) = true := decide_eq_true c20
            clear c20
            replace H := Option.bind_eq_some_iff.mp H
            obtain ⟨t307, A220, H⟩ := H
            replace H : (if t307 = true then (if x3_1.size + (a0.extract (x4_1 : Int).toNat ((wrap64 (x4_1 + 1)) : Int).toNat).size ≤ 9223372036854775807 then (bulletinref12_Quote.l0 kj5 a0 (x3_1 ++ (a0.extract (x4_1 : Int).toNat ((wrap64 (x4_1 + 1)) : Int).toNat)) (wrap64 (x4_1 + 1))) else (none)) else (if x3_1.size + 1 ≤ 9223372036854775807 then (bulletinref12_Quote.l0 kj5 a0 (x3_1 ++ (⟨#[32]⟩ : ByteArray)) (wrap64 (x4_1 + 1))) else (none))) = some r := H
            have A22 := Aside0.mk A220
            clear A220
            by_cases c23 : t307 = true
            ·subst c23
             have H1 : (if x3_1.size + (a0.extract (x4_1 : Int).toNat ((wrap64 (x4_1 + 1)) : Int).toNat).size ≤ 9223372036854775807 then (bulletinref12_Quote.l0 kj5 a0 (x3_1 ++ (a0.extract (x4_1 : Int).toNat ((wrap64 (x4_1 + 1)) : Int).toNat)) (wrap64 (x4_1 + 1))) else (none)) = some r := by rw [if_pos rfl] at H; exact H
             clear H
             have H := H1
             clear H1
             by_cases c24 : x3_1.size + (a0.extract (x4_1 : Int).toNat ((wrap64 (x4_1 + 1)) : Int).toNat).size ≤ 9223372036854775807
             ·rw [if_pos c24] at H
              have c24b0 := eq_true c24
              have c24b1 : decide (x3_1.size + (a0.extract (x4_1 : Int).toNat ((wrap64 (x4_1 + 1)) : Int).toNat).size ≤ 9223372036854775807) = true := decide_eq_true c24
              try have c24b2 : (9223372036854775807 < x3_1.size + (a0.extract (x4_1 : Int).toNat ((wrap64 (x4_1 + 1)) : Int).toNat).size) = False := eq_false (Nat.not_lt.2 c24)
              try (have c24b3 := c24; simp only [ByteArray.size_append, size_lit, ByteArray.size_extract, List.size_toArray, List.length_cons, List.length_nil, Nat.zero_add, Nat.reduceAdd] at c24b3; have c24b4 := eq_false (Nat.not_lt.2 c24b3))
              have H' := Aside0.mk H
              clear H
              have p21 : 0 ≤ (x4_1 : Int) := od
              have q21 : x4_1 < (a0.size : Int) := od
              have hx21 := bt_at a0 x4_1
              replace p21 := eq_true p21
              replace q21 := eq_true q21
              go_wp2_with (first | ((with_reducible refine gate_callee (f := 131) rfl ?_); refine goesL_ (some 32) rfl rfl Tryz.func131 (by kernel_rfl) rfl #[.int .u8 (bt a0 x4_1)] rfl am ?_; (with_reducible refine (bulletinref12_Text.calls (bt a0 x4_1) true _ A22.out).mono ?_); rintro e w' ⟨rfl, ⟨nd, rfl⟩⟩; refine ⟨_, rfl, ?_⟩))
              go_roundg kj5
              case measure => have := HK1.out; have := HJ5.out; omega
              case rel => exact ⟨(x3_1 ++ (a0.extract (x4_1 : Int).toNat ((wrap64 (x4_1 + 1)) : Int).toNat)), (wrap64 (x4_1 + 1)), cl, cl, H', ⟨by have := HK1.out; have := HJ5.out; omega⟩, by repeat (first | exact Drawn0.refl _ | apply Drawn0.step)⟩
             ·rw [if_neg c24] at H
              exact absurd H (by simp)
            ·replace c23 := Bool.eq_false_iff.mpr c23
             subst c23
             have H1 : (if x3_1.size + 1 ≤ 9223372036854775807 then (bulletinref12_Quote.l0 kj5 a0 (x3_1 ++ (⟨#[32]⟩ : ByteArray)) (wrap64 (x4_1 + 1))) else (none)) = some r := by rw [if_neg (show ¬ (false = true) by decide)] at H; exact H
             clear H
             have H := H1
             clear H1
             by_cases c25 : x3_1.size + 1 ≤ 9223372036854775807
             ·rw [if_pos c25] at H
              have c25b0 := eq_true c25
              have c25b1 : decide (x3_1.size + 1 ≤ 9223372036854775807) = true := decide_eq_true c25
              try have c25b2 : (9223372036854775807 < x3_1.size + 1) = False := eq_false (Nat.not_lt.2 c25)
              have H' := Aside0.mk H
              clear H
              have p21 : 0 ≤ (x4_1 : Int) := od
              have q21 : x4_1 < (a0.size : Int) := od
              have hx21 := bt_at a0 x4_1
              replace p21 := eq_true p21
              replace q21 := eq_true q21
              go_wp2_with (first | ((with_reducible refine gate_callee (f := 131) rfl ?_); refine goesL_ (some 32) rfl rfl Tryz.func131 (by kernel_rfl) rfl #[.int .u8 (bt a0 x4_1)] rfl am ?_; (with_reducible refine (bulletinref12_Text.calls (bt a0 x4_1) false _ A22.out).mono ?_); rintro e w' ⟨rfl, ⟨nd, rfl⟩⟩; refine ⟨_, rfl, ?_⟩))
              go_roundg kj5
              case measure => have := HK1.out; have := HJ5.out; omega
              case rel => exact ⟨(x3_1 ++ (⟨#[32]⟩ : ByteArray)), (wrap64 (x4_1 + 1)), cl, cl, H', ⟨by have := HK1.out; have := HJ5.out; omega⟩, by repeat (first | exact Drawn0.refl _ | apply Drawn0.step)⟩
             ·rw [if_neg c25] at H
              exact absurd H (by simp)
           ·rw [if_neg c20] at H
            exact absurd H (by simp)
          ·rw [if_neg c19] at H
           exact absurd H (by simp)
      ·rw [if_neg c5] at H
       exact absurd H (by simp)
     ·rw [if_neg c4] at H
      exact absurd H (by simp)
    ·rw [if_neg c3] at H
     exact absurd H (by simp)
   ·rw [if_neg c2] at H
    have c2b0 : decide (x4_1 < (a0.size : Int)) = false := decide_eq_false c2
    clear c2
    by_cases c26 : 1 + x3_1.size ≤ 9223372036854775807
    ·rw [if_pos c26] at H
     have c26b0 := eq_true c26
     have c26b1 : decide (1 + x3_1.size ≤ 9223372036854775807) = true := decide_eq_true c26
     try have c26b2 : (9223372036854775807 < 1 + x3_1.size) = False := eq_false (Nat.not_lt.2 c26)
     by_cases c27 : ((⟨#[34]⟩ : ByteArray) ++ x3_1).size + 1 ≤ 9223372036854775807
     ·rw [if_pos c27] at H
      have c27b0 := eq_true c27
      have c27b1 : decide (((⟨#[34]⟩ : ByteArray) ++ x3_1).size + 1 ≤ 9223372036854775807) = true := decide_eq_true c27
      try have c27b2 : (9223372036854775807 < ((⟨#[34]⟩ : ByteArray) ++ x3_1).size + 1) = False := eq_false (Nat.not_lt.2 c27)
      try (have c27b3 := c27; simp only [ByteArray.size_append, size_lit, ByteArray.size_extract, List.size_toArray, List.length_cons, List.length_nil, Nat.zero_add, Nat.reduceAdd] at c27b3; have c27b4 := eq_false (Nat.not_lt.2 c27b3))
      obtain rfl := Option.some.inj H
      go_wp2
      go_ret
      exact ⟨by first | rfl | (simp; done) | (simp [*]; done) | (simp [nil_ne]; done) | (simp [u8_w, i64w_]; done) | (simp [size_lit]; done) | (simp; unfold wrap64; omega), by repeat (first | exact Drawn0.refl _ | apply Drawn0.step)⟩
     ·rw [if_neg c27] at H
      exact absurd H (by simp)
    ·rw [if_neg c26] at H
     exact absurd H (by simp)

end Go.Proofs.YtihabmcaplnbcaaGreatDoor.Fn
namespace Go.Proofs.YtihabmcaplnbcaaGreatDoor.Fn
open Go.RowKit Go.Proofs.YtihabmcaplnbcaaGreatDoorW.PrintWords Go.Proofs.YtihabmcaplnbcaaGreatDoorW.PrintLast Go.Proofs.YtihabmcaplnbcaaGreatDoorW.PrintMore
attribute [local go_sem] max2_int min2_int max_two min_two max_three min_three max_four min_four
set_option linter.unusedVariables false
set_option linter.unusedSimpArgs false

/-! ### bulletinref13_Split: function 162 -/
def bulletinref13_Split.l0 : Nat → ByteArray → Int → List ByteArray → ByteArray → Int → Option (List ByteArray)
 | 0, _, _, _, _, _ => none
 | k + 1, x0, x1, x5, x6, x7 => if x7 < (x0.size : Int) then (if 0 ≤ x7 then (if (bt x0 x7) = x1 then (if x5.length < 8796093022208 then (bulletinref13_Split.l0 k x0 x1 (x5 ++ [x6]) (⟨#[]⟩ : ByteArray) (wrap64 (x7 + 1))) else (none)) else (if x7 ≤ (wrap64 (x7 + 1)) then (if (wrap64 (x7 + 1)) ≤ (x0.size : Int) then (if x6.size + (x0.extract (x7 : Int).toNat ((wrap64 (x7 + 1)) : Int).toNat).size ≤ 9223372036854775807 then (bulletinref13_Split.l0 k x0 x1 x5 (x6 ++ (x0.extract (x7 : Int).toNat ((wrap64 (x7 + 1)) : Int).toNat)) (wrap64 (x7 + 1))) else (none)) else (none)) else (none))) else (none)) else (if x5.length < 8796093022208 then (some (x5 ++ [x6])) else (none))
def bulletinref13_Split.f (k : Nat) (a0 : ByteArray) (a1 : Int) : Option (List ByteArray) := bulletinref13_Split.l0 k a0 a1 ([] : List ByteArray) (⟨#[]⟩ : ByteArray) 0
set_option maxHeartbeats 8000000 in
set_option maxRecDepth 100000 in
theorem bulletinref13_Split.calls (k : Nat) (a0 : ByteArray) (a1 : Int) (r : List ByteArray) (w : World) (h : bulletinref13_Split.f k a0 a1 = some r) :
  Calls Tryz.prog 162 #[.string a0, .int .u8 a1] w fun e w' => ∃ v0_ : Value, e = .returned (v0_) ∧ Kd.R Kd.string 9 w' w.heap.size (fun _ => True) v0_ r ∧ Below w.heap.size w w' := by
 have HB := Aside0.mk (Below.refl w.heap.size w)
 have H : (bulletinref13_Split.l0 k a0 a1 ([] : List ByteArray) (⟨#[]⟩ : ByteArray) 0) = some r := h
 clear h
 have H' := Aside0.mk H
 clear H
 go_enter Tryz.func162, Tryz.ntmps162
 go_wp2
 go_loopg [5, 6, 7] k (fun kq v5 v6 v7 w' => ∃ (x5_1 : List ByteArray) (x6_1 : ByteArray) (x7_1 : Int), v6 = .string x6_1 ∧ v7 = .int .i64 x7_1 ∧ Aside0 (bulletinref13_Split.l0 kq a0 a1 x5_1 x6_1 x7_1 = some r) ∧ Aside0 (kq ≤ k) ∧ Aside0 (Kd.R Kd.string 9 w' w.heap.size (fun _ => True) v5 x5_1) ∧ Aside0 (Below w.heap.size w w'))
 case atStart => exact ⟨(([] : List ByteArray)), ((⟨#[]⟩ : ByteArray)), (0), cl, cl, H', ⟨Nat.le_refl _⟩, ⟨by first | exact Kd.R_nil _ _ _ _ _ | exact Kd.N_nil _ _ _ _ _ | exact Kd.V_nil _ _ _ _ _ | exact Kd.Q_nil _ _ _ _ _ | exact Kd.S_nil _ _ _ _ _⟩, ⟨bw⟩⟩
 case round =>
  clear H'
  try clear c1
  try clear p2
  obtain ⟨x5_1, x6_1, x7_1, rfl, rfl, HA, HK1, HO_5, HB⟩ := hrel
  cases gk with
  | zero => exact absurd HA.out (by simp [bulletinref13_Split.l0])
  | succ k1 =>
   have H := HA.out
   clear HA
   simp only [bulletinref13_Split.l0] at H
   by_cases c3 : x7_1 < (a0.size : Int)
   ·rw [if_pos c3] at H
    have c3b0 : decide (x7_1 < (a0.size : Int)) = true := decide_eq_true c3
    clear c3
    by_cases c4 : 0 ≤ x7_1
    ·rw [if_pos c4] at H
     have c4b0 : decide (0 ≤ x7_1) = true := decide_eq_true c4
     clear c4
     by_cases c6 : (bt a0 x7_1) = a1
     ·rw [if_pos c6] at H
      have c6b0 : ((bt a0 x7_1) == a1) = true := beq_iff_eq.mpr c6
      have c6b1 : ((bt a0 x7_1) != a1) = false := bne_eq_false_iff_eq.mpr c6
      clear c6
      by_cases c7 : x5_1.length < 8796093022208
      ·rw [if_pos c7] at H
       have LMc7 := Aside0.mk c7
       clear c7
       obtain ⟨y293, hy293⟩ : ∃ y_ : List ByteArray, y_ = (x5_1 ++ [x6_1]) := ⟨_, rfl⟩
       replace H : (bulletinref13_Split.l0 k1 a0 a1 y293 (⟨#[]⟩ : ByteArray) (wrap64 (x7_1 + 1))) = some r := by first | (rw [hy293]; with_reducible exact H) | (have H2_ := (Option.bind_some _ _).symm.trans H; rw [hy293]; with_reducible exact H2_) | (have H2_ := (Option.bind_some _ _).symm.trans H; with_reducible exact H2_) | with_reducible exact H | (rw [hy293]; exact H) | exact H
       have Ny293 := Aside0.mk hy293
       clear hy293
       have H' := Aside0.mk H
       clear H
       have p5 : 0 ≤ (x7_1 : Int) := od
       have q5 : x7_1 < (a0.size : Int) := od
       have hx5 := bt_at a0 x7_1
       replace p5 := eq_true p5
       replace q5 := eq_true q5
       go_wp2_with (first | ((with_reducible refine gate_builtin (b := .append) (xs := #[.tmp 19, .tmp 21]) rfl ?_); at_builtin; refine Kd.R_append Kd.string (w0 := w) w.heap.size rfl (.tmp 19) (.tmp 21) 53 9 (.string ⟨#[]⟩) 16 rfl Tryz.underlying53 info9 rfl (by decide) (by omega) u5 x5_1 x6_1 [.string x6_1] (fun _ => True) (fun _ => False) rfl rfl ?aP (fun _ hk => hk.elim) ?aF ?aO ?aB ?aS ?aL ?_; (case aP => exact rfl); (case aB => exact bw); (case aF => exact (fun _ _ => trivial)); (case aO => exact (by (with_reducible repeat (first | apply Kd.R_alloc | apply Kd.R_drewN | apply Kd.R_drew)); exact HO_5.out)); (case aS => exact (below_size bw)); (case aL => have := LMc7.out; omega); intro v294 w8 ho hb hg hat; rw [← Ny293.out] at ho; have n0_ := Aside0.mk (hb); have n1_ := Aside0.mk (ho); clear HB; clear HO_5; have HB := n0_; have HO295 := n1_; clear n0_ n1_; clear ho hb hg hat))
       go_roundg k1
       case measure => have := HK1.out; omega
       case rel => exact ⟨(y293), ((⟨#[]⟩ : ByteArray)), (wrap64 (x7_1 + 1)), cl, cl, H', ⟨by have := HK1.out; omega⟩, ⟨by (with_reducible repeat (first | apply Kd.R_alloc | apply Kd.R_drewN | apply Kd.R_drew)); exact HO295.out⟩, ⟨bw⟩⟩
      ·rw [if_neg c7] at H
       exact absurd H (by simp)
     ·rw [if_neg c6] at H
      have c6b0 : ((bt a0 x7_1) == a1) = false := beq_eq_false_iff_ne.mpr c6
      have c6b1 : ((bt a0 x7_1) != a1) = true := bne_iff_ne.mpr c6
      have c9b0 := eq_true (od : 0 ≤ x7_1)
      by_cases c10 : x7_1 ≤ (wrap64 (x7_1 + 1))
      ·rw [if_pos c10] at H
       have c10b0 := eq_true c10
       have c10b1 : decide (x7_1 ≤ (wrap64 (x7_1 + 1))) = true := decide_eq_true c10
       by_cases c11 : (wrap64 (x7_1 + 1)) ≤ (a0.size : Int)
       ·rw [if_pos c11] at H
        have c11b0 := eq_true c11
        have c11b1 : decide ((wrap64 (x7_1 + 1)) ≤ (a0.size : Int)) = true := decide_eq_true c11
        by_cases c12 : x6_1.size + (a0.extract (x7_1 : Int).toNat ((wrap64 (x7_1 + 1)) : Int).toNat).size ≤ 9223372036854775807
        ·rw [if_pos c12] at H
         have c12b0 := eq_true c12
         have c12b1 : decide (x6_1.size + (a0.extract (x7_1 : Int).toNat ((wrap64 (x7_1 + 1)) : Int).toNat).size ≤ 9223372036854775807) = true := decide_eq_true c12
         try have c12b2 : (9223372036854775807 < x6_1.size + (a0.extract (x7_1 : Int).toNat ((wrap64 (x7_1 + 1)) : Int).toNat).size) = False := eq_false (Nat.not_lt.2 c12)
         try (have c12b3 := c12; simp only [ByteArray.size_append, size_lit, ByteArray.size_extract, List.size_toArray, List.length_cons, List.length_nil, Nat.zero_add, Nat.reduceAdd] at c12b3; have c12b4 := eq_false (Nat.not_lt.2 c12b3))
         have H' := Aside0.mk H
         clear H
         have p5 : 0 ≤ (x7_1 : Int) := od
         have q5 : x7_1 < (a0.size : Int) := od
         have hx5 := bt_at a0 x7_1
         replace p5 := eq_true p5
         replace q5 := eq_true q5
         go_wp2
         go_roundg k1
         case measure => have := HK1.out; omega
         case rel => exact ⟨(x5_1), (x6_1 ++ (a0.extract (x7_1 : Int).toNat ((wrap64 (x7_1 + 1)) : Int).toNat)), (wrap64 (x7_1 + 1)), cl, cl, H', ⟨by have := HK1.out; omega⟩, ⟨by (with_reducible repeat (first | apply Kd.R_alloc | apply Kd.R_drewN | apply Kd.R_drew)); exact HO_5.out⟩, ⟨bw⟩⟩
        ·rw [if_neg c12] at H
         exact absurd H (by simp)
       ·rw [if_neg c11] at H
        exact absurd H (by simp)
      ·rw [if_neg c10] at H
       exact absurd H (by simp)
    ·rw [if_neg c4] at H
     exact absurd H (by simp)
   ·rw [if_neg c3] at H
    have c3b0 : decide (x7_1 < (a0.size : Int)) = false := decide_eq_false c3
    clear c3
    by_cases c13 : x5_1.length < 8796093022208
    ·rw [if_pos c13] at H
     have LMc13 := Aside0.mk c13
     clear c13
     obtain ⟨y296, hy296⟩ : ∃ y_ : List ByteArray, y_ = (x5_1 ++ [x6_1]) := ⟨_, rfl⟩
     replace H : (some y296) = some r := by first | (rw [hy296]; with_reducible exact H) | (have H2_ := (Option.bind_some _ _).symm.trans H; rw [hy296]; with_reducible exact H2_) | (have H2_ := (Option.bind_some _ _).symm.trans H; with_reducible exact H2_) | with_reducible exact H | (rw [hy296]; exact H) | exact H
     have Ny296 := Aside0.mk hy296
     clear hy296
     obtain rfl := Option.some.inj H
     go_wp2_with (first | ((with_reducible refine gate_builtin (b := .append) (xs := #[.tmp 30, .tmp 32]) rfl ?_); at_builtin; refine Kd.R_append Kd.string (w0 := w) w.heap.size rfl (.tmp 30) (.tmp 32) 53 9 (.string ⟨#[]⟩) 16 rfl Tryz.underlying53 info9 rfl (by decide) (by omega) u5 x5_1 x6_1 [.string x6_1] (fun _ => True) (fun _ => False) rfl rfl ?aP (fun _ hk => hk.elim) ?aF ?aO ?aB ?aS ?aL ?_; (case aP => exact rfl); (case aB => exact bw); (case aF => exact (fun _ _ => trivial)); (case aO => exact (by (with_reducible repeat (first | apply Kd.R_alloc | apply Kd.R_drewN | apply Kd.R_drew)); exact HO_5.out)); (case aS => exact (below_size bw)); (case aL => have := LMc13.out; omega); intro v297 w14 ho hb hg hat; rw [← Ny296.out] at ho; have n0_ := Aside0.mk (hb); have n1_ := Aside0.mk (ho); clear HB; clear HO_5; have HB := n0_; have HO298 := n1_; clear n0_ n1_; clear ho hb hg hat))
     go_ret
     exact ⟨_, by first | rfl | (simp [errW_none, errW_some] <;> rfl) | (simp [*, errW_none, errW_some] <;> rfl), by (with_reducible repeat (first | apply Kd.R_alloc | apply Kd.R_drewN | apply Kd.R_drew)); exact HO298.out, bw⟩
    ·rw [if_neg c13] at H
     exact absurd H (by simp)

end Go.Proofs.YtihabmcaplnbcaaGreatDoor.Fn
namespace Go.Proofs.YtihabmcaplnbcaaGreatDoor.Fn
open Go.RowKit Go.Proofs.YtihabmcaplnbcaaGreatDoorW.PrintWords Go.Proofs.YtihabmcaplnbcaaGreatDoorW.PrintLast Go.Proofs.YtihabmcaplnbcaaGreatDoorW.PrintMore
attribute [local go_sem] max2_int min2_int max_two min_two max_three min_three max_four min_four
set_option linter.unusedVariables false
set_option linter.unusedSimpArgs false

/-! ### bulletinref13_Dotted: function 121 -/
def bulletinref13_Dotted.l0 : Nat → List ByteArray → Int → Option (Bool)
 | 0, _, _ => none
 | k + 1, x3, x4 => if x4 < (x3.length : Int) then (if 0 ≤ x4 then ((bulletinref12_IsAtom.f k (rdOf ByteArray.empty x3 x4)).bind fun t305 => (if t305 = true then (bulletinref13_Dotted.l0 k x3 (wrap64 (x4 + 1))) else (some false))) else (none)) else (some true)
def bulletinref13_Dotted.f (k : Nat) (a0 : ByteArray) : Option (Bool) := (bulletinref13_Split.f k a0 46).bind fun t301 => (bulletinref13_Dotted.l0 k t301 0)
set_option maxHeartbeats 8000000 in
set_option maxRecDepth 100000 in
theorem bulletinref13_Dotted.calls (k : Nat) (a0 : ByteArray) (r : Bool) (w : World) (h : bulletinref13_Dotted.f k a0 = some r) :
  Calls Tryz.prog 121 #[.string a0] w fun e w' => e = .returned (.bool r) ∧ Below w.heap.size w w' := by
 have HB := Aside0.mk (Below.refl w.heap.size w)
 have H : ((bulletinref13_Split.f k a0 46).bind fun t301 => (bulletinref13_Dotted.l0 k t301 0)) = some r := h
 clear h
 replace H := Option.bind_eq_some_iff.mp H
 obtain ⟨t301, A20, H⟩ := H
 replace H : (bulletinref13_Dotted.l0 k t301 0) = some r := H
 have A2 := Aside0.mk A20
 clear A20
 have H' := Aside0.mk H
 clear H
 go_enter Tryz.func121, Tryz.ntmps121
 go_wp2_with (first | ((with_reducible refine gate_callee (f := 162) rfl ?_); refine goesL_ (some 6) rfl rfl Tryz.func162 (by kernel_rfl) rfl #[.string a0, .int .u8 46] rfl am ?_; (with_reducible refine (bulletinref13_Split.calls k a0 46 t301 _ A2.out).mono ?_); rintro e w3 ⟨v302, rfl, ho0, hb⟩; refine ⟨_, rfl, ?_⟩; have n0_ := Aside0.mk (Kd.R_lower ho0 (below_size bw)); have n1_ := Aside0.mk (below_step bw hb); clear HB; have HO303 := n0_; have HB := n1_; clear n0_ n1_; (try clear hb); (try clear hb2); (try clear hk); (try clear hi); (try clear ho0)))
 go_loopg [4] k (fun kq v4 w' => ∃ (x4_1 : Int), v4 = .int .i64 x4_1 ∧ Aside0 (bulletinref13_Dotted.l0 kq t301 x4_1 = some r) ∧ Aside0 (kq ≤ k) ∧ Aside0 (Kd.R Kd.string 9 w' w.heap.size (fun _ => True) v302 t301) ∧ Aside0 (Below w.heap.size w w'))
 case atStart => exact ⟨(0), cl, H', ⟨Nat.le_refl _⟩, ⟨by (with_reducible repeat (first | apply Kd.R_alloc | apply Kd.R_drewN | apply Kd.R_drew)); exact HO303.out⟩, ⟨bw⟩⟩
 case round =>
  clear H'
  try clear c1
  try clear p2
  obtain ⟨x4_1, rfl, HA, HK1, HO_3, HB⟩ := hrel
  cases gk with
  | zero => exact absurd HA.out (by simp [bulletinref13_Dotted.l0])
  | succ k1 =>
   have H := HA.out
   clear HA
   simp only [bulletinref13_Dotted.l0] at H
   by_cases c4 : x4_1 < (t301.length : Int)
   ·rw [if_pos c4] at H
    have c4b0 : decide (x4_1 < (t301.length : Int)) = true := decide_eq_true c4
    clear c4
    by_cases c5 : 0 ≤ x4_1
    ·rw [if_pos c5] at H
     have c5b0 : decide (0 ≤ x4_1) = true := decide_eq_true c5
     clear c5
     replace H := Option.bind_eq_some_iff.mp H
     obtain ⟨t305, A60, H⟩ := H
     replace H : (if t305 = true then (bulletinref13_Dotted.l0 k1 t301 (wrap64 (x4_1 + 1))) else (some false)) = some r := H
     have A6 := Aside0.mk A60
     clear A60
     by_cases c7 : t305 = true
     ·subst c7
      have H1 : (bulletinref13_Dotted.l0 k1 t301 (wrap64 (x4_1 + 1))) = some r := by rw [if_pos rfl] at H; exact H
      clear H
      have H := H1
      clear H1
      have H' := Aside0.mk H
      clear H
      obtain ⟨Ao8, co8, eo8⟩ := Kd.R_slice HO_3.out
      subst eo8
      have p304 : 0 ≤ (x4_1 : Int) := od
      have q304 : x4_1 < (t301.length : Int) := od
      obtain ⟨ad304, e304, hx304_0⟩ := Kd.at_string (Kd.R_reads' HO_3.out).2.2 x4_1 p304 q304
      cases e304
      replace p304 := eq_true p304
      replace q304 := eq_true q304
      go_wp2_with (first | ((with_reducible refine gate_callee (f := 163) rfl ?_); refine goesL_ (some 17) rfl rfl Tryz.func163 (by kernel_rfl) rfl #[.string (rdOf ByteArray.empty t301 x4_1)] rfl am ?_; (with_reducible refine (bulletinref12_IsAtom.calls k1 (rdOf ByteArray.empty t301 x4_1) true _ A6.out).mono ?_); rintro e w' ⟨rfl, ⟨nd, rfl⟩⟩; refine ⟨_, rfl, ?_⟩))
      go_roundg k1
      case measure => have := HK1.out; omega
      case rel => exact ⟨(wrap64 (x4_1 + 1)), cl, H', ⟨by have := HK1.out; omega⟩, ⟨by (with_reducible repeat (first | apply Kd.R_alloc | apply Kd.R_drewN | apply Kd.R_drew)); exact HO_3.out⟩, ⟨bw⟩⟩
     ·replace c7 := Bool.eq_false_iff.mpr c7
      subst c7
      have H1 : (some false) = some r := by rw [if_neg (show ¬ (false = true) by decide)] at H; exact H
      clear H
      have H := H1
      clear H1
      obtain rfl := Option.some.inj H
      obtain ⟨Ao9, co9, eo9⟩ := Kd.R_slice HO_3.out
      subst eo9
      have p304 : 0 ≤ (x4_1 : Int) := od
      have q304 : x4_1 < (t301.length : Int) := od
      obtain ⟨ad304, e304, hx304_0⟩ := Kd.at_string (Kd.R_reads' HO_3.out).2.2 x4_1 p304 q304
      cases e304
      replace p304 := eq_true p304
      replace q304 := eq_true q304
      go_wp2_with (first | ((with_reducible refine gate_callee (f := 163) rfl ?_); refine goesL_ (some 17) rfl rfl Tryz.func163 (by kernel_rfl) rfl #[.string (rdOf ByteArray.empty t301 x4_1)] rfl am ?_; (with_reducible refine (bulletinref12_IsAtom.calls k1 (rdOf ByteArray.empty t301 x4_1) false _ A6.out).mono ?_); rintro e w' ⟨rfl, ⟨nd, rfl⟩⟩; refine ⟨_, rfl, ?_⟩))
      go_ret
      exact ⟨by first | rfl | (simp [errW_none, errW_some] <;> rfl) | (simp [*, errW_none, errW_some] <;> rfl), bw⟩
    ·rw [if_neg c5] at H
     exact absurd H (by simp)
   ·rw [if_neg c4] at H
    have c4b0 : decide (x4_1 < (t301.length : Int)) = false := decide_eq_false c4
    clear c4
    obtain rfl := Option.some.inj H
    obtain ⟨Ao10, co10, eo10⟩ := Kd.R_slice HO_3.out
    subst eo10
    go_wp2
    go_ret
    exact ⟨by first | rfl | (simp [errW_none, errW_some] <;> rfl) | (simp [*, errW_none, errW_some] <;> rfl), bw⟩

end Go.Proofs.YtihabmcaplnbcaaGreatDoor.Fn
namespace Go.Proofs.YtihabmcaplnbcaaGreatDoor.Fn
open Go.RowKit Go.Proofs.YtihabmcaplnbcaaGreatDoorW.PrintWords Go.Proofs.YtihabmcaplnbcaaGreatDoorW.PrintLast Go.Proofs.YtihabmcaplnbcaaGreatDoorW.PrintMore
attribute [local go_sem] max2_int min2_int max_two min_two max_three min_three max_four min_four
set_option linter.unusedVariables false
set_option linter.unusedSimpArgs false

/-! ### bulletinref13_Text: function 73 -/
def bulletinref13_Text.f (k : Nat) (a0_0 : ByteArray) (a0_1 : ByteArray) : Option (ByteArray) := (bulletinref13_Dotted.f k a0_0).bind fun t309 => (if t309 = true then (if a0_0.size + 1 ≤ 9223372036854775807 then (if (a0_0 ++ (⟨#[64]⟩ : ByteArray)).size + a0_1.size ≤ 9223372036854775807 then (some ((a0_0 ++ (⟨#[64]⟩ : ByteArray)) ++ a0_1)) else (none)) else (none)) else ((bulletinref12_Quote.f k a0_0).bind fun t310 => (if t310.size + 1 ≤ 9223372036854775807 then (if (t310 ++ (⟨#[64]⟩ : ByteArray)).size + a0_1.size ≤ 9223372036854775807 then (some ((t310 ++ (⟨#[64]⟩ : ByteArray)) ++ a0_1)) else (none)) else (none))))
set_option maxHeartbeats 8000000 in
set_option maxRecDepth 100000 in
theorem bulletinref13_Text.calls (k : Nat) (a0_0 : ByteArray) (a0_1 : ByteArray) (r : ByteArray) (w : World) (h : bulletinref13_Text.f k a0_0 a0_1 = some r) :
  Calls Tryz.prog 73 #[.agg #[.string a0_0, .string a0_1]] w fun e w' => e = .returned (.string r) ∧ Below w.heap.size w w' := by
 have hu44 := Tryz.underlying44
 have HB := Aside0.mk (Below.refl w.heap.size w)
 have H : ((bulletinref13_Dotted.f k a0_0).bind fun t309 => (if t309 = true then (if a0_0.size + 1 ≤ 9223372036854775807 then (if (a0_0 ++ (⟨#[64]⟩ : ByteArray)).size + a0_1.size ≤ 9223372036854775807 then (some ((a0_0 ++ (⟨#[64]⟩ : ByteArray)) ++ a0_1)) else (none)) else (none)) else ((bulletinref12_Quote.f k a0_0).bind fun t310 => (if t310.size + 1 ≤ 9223372036854775807 then (if (t310 ++ (⟨#[64]⟩ : ByteArray)).size + a0_1.size ≤ 9223372036854775807 then (some ((t310 ++ (⟨#[64]⟩ : ByteArray)) ++ a0_1)) else (none)) else (none))))) = some r := h
 clear h
 replace H := Option.bind_eq_some_iff.mp H
 obtain ⟨t309, A20, H⟩ := H
 replace H : (if t309 = true then (if a0_0.size + 1 ≤ 9223372036854775807 then (if (a0_0 ++ (⟨#[64]⟩ : ByteArray)).size + a0_1.size ≤ 9223372036854775807 then (some ((a0_0 ++ (⟨#[64]⟩ : ByteArray)) ++ a0_1)) else (none)) else (none)) else ((bulletinref12_Quote.f k a0_0).bind fun t310 => (if t310.size + 1 ≤ 9223372036854775807 then (if (t310 ++ (⟨#[64]⟩ : ByteArray)).size + a0_1.size ≤ 9223372036854775807 then (some ((t310 ++ (⟨#[64]⟩ : ByteArray)) ++ a0_1)) else (none)) else (none)))) = some r := H
 have A2 := Aside0.mk A20
 clear A20
 by_cases c3 : t309 = true
 ·subst c3
  have H1 : (if a0_0.size + 1 ≤ 9223372036854775807 then (if (a0_0 ++ (⟨#[64]⟩ : ByteArray)).size + a0_1.size ≤ 9223372036854775807 then (some ((a0_0 ++ (⟨#[64]⟩ : ByteArray)) ++ a0_1)) else (none)) else (none)) = some r := by rw [if_pos rfl] at H; exact H
  clear H
  have H := H1
  clear H1
  by_cases c4 : a0_0.size + 1 ≤ 9223372036854775807
  ·rw [if_pos c4] at H
   have c4b0 := eq_true c4
   have c4b1 : decide (a0_0.size + 1 ≤ 9223372036854775807) = true := decide_eq_true c4
   try have c4b2 : (9223372036854775807 < a0_0.size + 1) = False := eq_false (Nat.not_lt.2 c4)
   by_cases c5 : (a0_0 ++ (⟨#[64]⟩ : ByteArray)).size + a0_1.size ≤ 9223372036854775807
   ·rw [if_pos c5] at H
    have c5b0 := eq_true c5
    have c5b1 : decide ((a0_0 ++ (⟨#[64]⟩ : ByteArray)).size + a0_1.size ≤ 9223372036854775807) = true := decide_eq_true c5
    try have c5b2 : (9223372036854775807 < (a0_0 ++ (⟨#[64]⟩ : ByteArray)).size + a0_1.size) = False := eq_false (Nat.not_lt.2 c5)
    try (have c5b3 := c5; simp only [ByteArray.size_append, size_lit, ByteArray.size_extract, List.size_toArray, List.length_cons, List.length_nil, Nat.zero_add, Nat.reduceAdd] at c5b3; have c5b4 := eq_false (Nat.not_lt.2 c5b3))
    obtain rfl := Option.some.inj H
    go_enter Tryz.func73, Tryz.ntmps73
    go_wp2_with (first | ((with_reducible refine gate_dst (N := 1) rfl ?_); refine box_event ?hg (N := 1) ?hd (cs := #[.string a0_0, .string a0_1]) (t := 44) ?hr ?_; (case hd => rfl); (case hg => rfl); (case hr => first | (go_simp; done) | (go_simp; rfl)); intro gb308 hg w6 hbox hb; have n0_ := Aside0.mk (below_step bw hb); have n1_ := Aside0.mk (hbox); have n2_ := Aside0.mk ((by rw [hg]; exact (below_size bw) : w.heap.size ≤ gb308)); have n3_ := Aside0.mk ((by rw [hg]; exact (below_size bw) : w.heap.size ≤ gb308)); clear HB; have HB := n0_; have BK308 := n1_; have GW308 := n2_; have GE308 := n3_; clear n0_ n1_ n2_ n3_; clear hb hbox hg; have hcz7_0 : w6.cell? ⟨gb308, 0, none⟩ = some (.string a0_0) := (blk_cell BK308.out 0).trans rfl; have hcz7_1 : w6.cell? ⟨gb308, 1, none⟩ = some (.string a0_1) := (blk_cell BK308.out 1).trans rfl; have hfz7_0 := blk_frozen BK308.out 0; have hfz7_1 := blk_frozen BK308.out 1) | (go_at_call 121; (with_reducible refine (bulletinref13_Dotted.calls k a0_0 true _ A2.out).mono ?_); rintro e w8 ⟨rfl, hb⟩; have n0_ := Aside0.mk (blk_below (g := gb308) (o := .cells #[.string a0_0, .string a0_1] 44 (0, 0)) bk hb); have n1_ := Aside0.mk (below_step bwS hb); clear BK308; clear HB; have BK308 := n0_; have HB := n1_; clear n0_ n1_; (try clear hb); (try clear hb2); (try clear hk); (try clear hi); have hcz9_0 : w8.cell? ⟨gb308, 0, none⟩ = some (.string a0_0) := (blk_cell BK308.out 0).trans rfl; have hcz9_1 : w8.cell? ⟨gb308, 1, none⟩ = some (.string a0_1) := (blk_cell BK308.out 1).trans rfl; have hfz9_0 := blk_frozen BK308.out 0; have hfz9_1 := blk_frozen BK308.out 1))
    repeat (go_quiet (first | ((with_reducible refine gate_dst (N := 1) rfl ?_); refine box_event ?hg (N := 1) ?hd (cs := #[.string a0_0, .string a0_1]) (t := 44) ?hr ?_; (case hd => rfl); (case hg => rfl); (case hr => first | (go_simp; done) | (go_simp; rfl)); intro gb308 hg w6 hbox hb; have n0_ := Aside0.mk (below_step bw hb); have n1_ := Aside0.mk (hbox); have n2_ := Aside0.mk ((by rw [hg]; exact (below_size bw) : w.heap.size ≤ gb308)); have n3_ := Aside0.mk ((by rw [hg]; exact (below_size bw) : w.heap.size ≤ gb308)); clear HB; have HB := n0_; have BK308 := n1_; have GW308 := n2_; have GE308 := n3_; clear n0_ n1_ n2_ n3_; clear hb hbox hg; have hcz7_0 : w6.cell? ⟨gb308, 0, none⟩ = some (.string a0_0) := (blk_cell BK308.out 0).trans rfl; have hcz7_1 : w6.cell? ⟨gb308, 1, none⟩ = some (.string a0_1) := (blk_cell BK308.out 1).trans rfl; have hfz7_0 := blk_frozen BK308.out 0; have hfz7_1 := blk_frozen BK308.out 1) | (go_at_call 121; (with_reducible refine (bulletinref13_Dotted.calls k a0_0 true _ A2.out).mono ?_); rintro e w8 ⟨rfl, hb⟩; have n0_ := Aside0.mk (blk_below (g := gb308) (o := .cells #[.string a0_0, .string a0_1] 44 (0, 0)) bk hb); have n1_ := Aside0.mk (below_step bwS hb); clear BK308; clear HB; have BK308 := n0_; have HB := n1_; clear n0_ n1_; (try clear hb); (try clear hb2); (try clear hk); (try clear hi); have hcz9_0 : w8.cell? ⟨gb308, 0, none⟩ = some (.string a0_0) := (blk_cell BK308.out 0).trans rfl; have hcz9_1 : w8.cell? ⟨gb308, 1, none⟩ = some (.string a0_1) := (blk_cell BK308.out 1).trans rfl; have hfz9_0 := blk_frozen BK308.out 0; have hfz9_1 := blk_frozen BK308.out 1)); try go_wp2_with (first | ((with_reducible refine gate_dst (N := 1) rfl ?_); refine box_event ?hg (N := 1) ?hd (cs := #[.string a0_0, .string a0_1]) (t := 44) ?hr ?_; (case hd => rfl); (case hg => rfl); (case hr => first | (go_simp; done) | (go_simp; rfl)); intro gb308 hg w6 hbox hb; have n0_ := Aside0.mk (below_step bw hb); have n1_ := Aside0.mk (hbox); have n2_ := Aside0.mk ((by rw [hg]; exact (below_size bw) : w.heap.size ≤ gb308)); have n3_ := Aside0.mk ((by rw [hg]; exact (below_size bw) : w.heap.size ≤ gb308)); clear HB; have HB := n0_; have BK308 := n1_; have GW308 := n2_; have GE308 := n3_; clear n0_ n1_ n2_ n3_; clear hb hbox hg; have hcz7_0 : w6.cell? ⟨gb308, 0, none⟩ = some (.string a0_0) := (blk_cell BK308.out 0).trans rfl; have hcz7_1 : w6.cell? ⟨gb308, 1, none⟩ = some (.string a0_1) := (blk_cell BK308.out 1).trans rfl; have hfz7_0 := blk_frozen BK308.out 0; have hfz7_1 := blk_frozen BK308.out 1) | (go_at_call 121; (with_reducible refine (bulletinref13_Dotted.calls k a0_0 true _ A2.out).mono ?_); rintro e w8 ⟨rfl, hb⟩; have n0_ := Aside0.mk (blk_below (g := gb308) (o := .cells #[.string a0_0, .string a0_1] 44 (0, 0)) bk hb); have n1_ := Aside0.mk (below_step bwS hb); clear BK308; clear HB; have BK308 := n0_; have HB := n1_; clear n0_ n1_; (try clear hb); (try clear hb2); (try clear hk); (try clear hi); have hcz9_0 : w8.cell? ⟨gb308, 0, none⟩ = some (.string a0_0) := (blk_cell BK308.out 0).trans rfl; have hcz9_1 : w8.cell? ⟨gb308, 1, none⟩ = some (.string a0_1) := (blk_cell BK308.out 1).trans rfl; have hfz9_0 := blk_frozen BK308.out 0; have hfz9_1 := blk_frozen BK308.out 1)))
    go_ret
    exact ⟨by first | rfl | (simp [errW_none, errW_some] <;> rfl) | (simp [*, errW_none, errW_some] <;> rfl), bwS⟩
   ·rw [if_neg c5] at H
    exact absurd H (by simp)
  ·rw [if_neg c4] at H
   exact absurd H (by simp)
 ·replace c3 := Bool.eq_false_iff.mpr c3
  subst c3
  have H1 : ((bulletinref12_Quote.f k a0_0).bind fun t310 => (if t310.size + 1 ≤ 9223372036854775807 then (if (t310 ++ (⟨#[64]⟩ : ByteArray)).size + a0_1.size ≤ 9223372036854775807 then (some ((t310 ++ (⟨#[64]⟩ : ByteArray)) ++ a0_1)) else (none)) else (none))) = some r := by rw [if_neg (show ¬ (false = true) by decide)] at H; exact H
  clear H
  have H := H1
  clear H1
  replace H := Option.bind_eq_some_iff.mp H
  obtain ⟨t310, A100, H⟩ := H
  replace H : (if t310.size + 1 ≤ 9223372036854775807 then (if (t310 ++ (⟨#[64]⟩ : ByteArray)).size + a0_1.size ≤ 9223372036854775807 then (some ((t310 ++ (⟨#[64]⟩ : ByteArray)) ++ a0_1)) else (none)) else (none)) = some r := H
  have A10 := Aside0.mk A100
  clear A100
  by_cases c11 : t310.size + 1 ≤ 9223372036854775807
  ·rw [if_pos c11] at H
   have c11b0 := eq_true c11
   have c11b1 : decide (t310.size + 1 ≤ 9223372036854775807) = true := decide_eq_true c11
   try have c11b2 : (9223372036854775807 < t310.size + 1) = False := eq_false (Nat.not_lt.2 c11)
   by_cases c12 : (t310 ++ (⟨#[64]⟩ : ByteArray)).size + a0_1.size ≤ 9223372036854775807
   ·rw [if_pos c12] at H
    have c12b0 := eq_true c12
    have c12b1 : decide ((t310 ++ (⟨#[64]⟩ : ByteArray)).size + a0_1.size ≤ 9223372036854775807) = true := decide_eq_true c12
    try have c12b2 : (9223372036854775807 < (t310 ++ (⟨#[64]⟩ : ByteArray)).size + a0_1.size) = False := eq_false (Nat.not_lt.2 c12)
    try (have c12b3 := c12; simp only [ByteArray.size_append, size_lit, ByteArray.size_extract, List.size_toArray, List.length_cons, List.length_nil, Nat.zero_add, Nat.reduceAdd] at c12b3; have c12b4 := eq_false (Nat.not_lt.2 c12b3))
    obtain rfl := Option.some.inj H
    go_enter Tryz.func73, Tryz.ntmps73
    go_wp2_with (first | ((with_reducible refine gate_dst (N := 1) rfl ?_); refine box_event ?hg (N := 1) ?hd (cs := #[.string a0_0, .string a0_1]) (t := 44) ?hr ?_; (case hd => rfl); (case hg => rfl); (case hr => first | (go_simp; done) | (go_simp; rfl)); intro gb308 hg w13 hbox hb; have n0_ := Aside0.mk (below_step bw hb); have n1_ := Aside0.mk (hbox); have n2_ := Aside0.mk ((by rw [hg]; exact (below_size bw) : w.heap.size ≤ gb308)); have n3_ := Aside0.mk ((by rw [hg]; exact (below_size bw) : w.heap.size ≤ gb308)); clear HB; have HB := n0_; have BK308 := n1_; have GW308 := n2_; have GE308 := n3_; clear n0_ n1_ n2_ n3_; clear hb hbox hg; have hcz14_0 : w13.cell? ⟨gb308, 0, none⟩ = some (.string a0_0) := (blk_cell BK308.out 0).trans rfl; have hcz14_1 : w13.cell? ⟨gb308, 1, none⟩ = some (.string a0_1) := (blk_cell BK308.out 1).trans rfl; have hfz14_0 := blk_frozen BK308.out 0; have hfz14_1 := blk_frozen BK308.out 1) | (go_at_call 121; (with_reducible refine (bulletinref13_Dotted.calls k a0_0 false _ A2.out).mono ?_); rintro e w15 ⟨rfl, hb⟩; have n0_ := Aside0.mk (blk_below (g := gb308) (o := .cells #[.string a0_0, .string a0_1] 44 (0, 0)) bk hb); have n1_ := Aside0.mk (below_step bwS hb); clear BK308; clear HB; have BK308 := n0_; have HB := n1_; clear n0_ n1_; (try clear hb); (try clear hb2); (try clear hk); (try clear hi); have hcz16_0 : w15.cell? ⟨gb308, 0, none⟩ = some (.string a0_0) := (blk_cell BK308.out 0).trans rfl; have hcz16_1 : w15.cell? ⟨gb308, 1, none⟩ = some (.string a0_1) := (blk_cell BK308.out 1).trans rfl; have hfz16_0 := blk_frozen BK308.out 0; have hfz16_1 := blk_frozen BK308.out 1) | (go_at_call 122; (with_reducible refine (bulletinref12_Quote.calls k a0_0 t310 _ A10.out).mono ?_); rintro e w' ⟨rfl, ⟨nd, rfl⟩⟩; (try first | exact ⟨rfl, _, World.drewN_drewN _ _ _⟩ | exact ⟨rfl, _, Eq.trans (World.drewN_drewN _ _ _) (congrArg (World.drewN _) (Nat.add_assoc _ _ _))⟩)))
    repeat (go_quiet (first | ((with_reducible refine gate_dst (N := 1) rfl ?_); refine box_event ?hg (N := 1) ?hd (cs := #[.string a0_0, .string a0_1]) (t := 44) ?hr ?_; (case hd => rfl); (case hg => rfl); (case hr => first | (go_simp; done) | (go_simp; rfl)); intro gb308 hg w13 hbox hb; have n0_ := Aside0.mk (below_step bw hb); have n1_ := Aside0.mk (hbox); have n2_ := Aside0.mk ((by rw [hg]; exact (below_size bw) : w.heap.size ≤ gb308)); have n3_ := Aside0.mk ((by rw [hg]; exact (below_size bw) : w.heap.size ≤ gb308)); clear HB; have HB := n0_; have BK308 := n1_; have GW308 := n2_; have GE308 := n3_; clear n0_ n1_ n2_ n3_; clear hb hbox hg; have hcz14_0 : w13.cell? ⟨gb308, 0, none⟩ = some (.string a0_0) := (blk_cell BK308.out 0).trans rfl; have hcz14_1 : w13.cell? ⟨gb308, 1, none⟩ = some (.string a0_1) := (blk_cell BK308.out 1).trans rfl; have hfz14_0 := blk_frozen BK308.out 0; have hfz14_1 := blk_frozen BK308.out 1) | (go_at_call 121; (with_reducible refine (bulletinref13_Dotted.calls k a0_0 false _ A2.out).mono ?_); rintro e w15 ⟨rfl, hb⟩; have n0_ := Aside0.mk (blk_below (g := gb308) (o := .cells #[.string a0_0, .string a0_1] 44 (0, 0)) bk hb); have n1_ := Aside0.mk (below_step bwS hb); clear BK308; clear HB; have BK308 := n0_; have HB := n1_; clear n0_ n1_; (try clear hb); (try clear hb2); (try clear hk); (try clear hi); have hcz16_0 : w15.cell? ⟨gb308, 0, none⟩ = some (.string a0_0) := (blk_cell BK308.out 0).trans rfl; have hcz16_1 : w15.cell? ⟨gb308, 1, none⟩ = some (.string a0_1) := (blk_cell BK308.out 1).trans rfl; have hfz16_0 := blk_frozen BK308.out 0; have hfz16_1 := blk_frozen BK308.out 1) | (go_at_call 122; (with_reducible refine (bulletinref12_Quote.calls k a0_0 t310 _ A10.out).mono ?_); rintro e w' ⟨rfl, ⟨nd, rfl⟩⟩; (try first | exact ⟨rfl, _, World.drewN_drewN _ _ _⟩ | exact ⟨rfl, _, Eq.trans (World.drewN_drewN _ _ _) (congrArg (World.drewN _) (Nat.add_assoc _ _ _))⟩))); try go_wp2_with (first | ((with_reducible refine gate_dst (N := 1) rfl ?_); refine box_event ?hg (N := 1) ?hd (cs := #[.string a0_0, .string a0_1]) (t := 44) ?hr ?_; (case hd => rfl); (case hg => rfl); (case hr => first | (go_simp; done) | (go_simp; rfl)); intro gb308 hg w13 hbox hb; have n0_ := Aside0.mk (below_step bw hb); have n1_ := Aside0.mk (hbox); have n2_ := Aside0.mk ((by rw [hg]; exact (below_size bw) : w.heap.size ≤ gb308)); have n3_ := Aside0.mk ((by rw [hg]; exact (below_size bw) : w.heap.size ≤ gb308)); clear HB; have HB := n0_; have BK308 := n1_; have GW308 := n2_; have GE308 := n3_; clear n0_ n1_ n2_ n3_; clear hb hbox hg; have hcz14_0 : w13.cell? ⟨gb308, 0, none⟩ = some (.string a0_0) := (blk_cell BK308.out 0).trans rfl; have hcz14_1 : w13.cell? ⟨gb308, 1, none⟩ = some (.string a0_1) := (blk_cell BK308.out 1).trans rfl; have hfz14_0 := blk_frozen BK308.out 0; have hfz14_1 := blk_frozen BK308.out 1) | (go_at_call 121; (with_reducible refine (bulletinref13_Dotted.calls k a0_0 false _ A2.out).mono ?_); rintro e w15 ⟨rfl, hb⟩; have n0_ := Aside0.mk (blk_below (g := gb308) (o := .cells #[.string a0_0, .string a0_1] 44 (0, 0)) bk hb); have n1_ := Aside0.mk (below_step bwS hb); clear BK308; clear HB; have BK308 := n0_; have HB := n1_; clear n0_ n1_; (try clear hb); (try clear hb2); (try clear hk); (try clear hi); have hcz16_0 : w15.cell? ⟨gb308, 0, none⟩ = some (.string a0_0) := (blk_cell BK308.out 0).trans rfl; have hcz16_1 : w15.cell? ⟨gb308, 1, none⟩ = some (.string a0_1) := (blk_cell BK308.out 1).trans rfl; have hfz16_0 := blk_frozen BK308.out 0; have hfz16_1 := blk_frozen BK308.out 1) | (go_at_call 122; (with_reducible refine (bulletinref12_Quote.calls k a0_0 t310 _ A10.out).mono ?_); rintro e w' ⟨rfl, ⟨nd, rfl⟩⟩; (try first | exact ⟨rfl, _, World.drewN_drewN _ _ _⟩ | exact ⟨rfl, _, Eq.trans (World.drewN_drewN _ _ _) (congrArg (World.drewN _) (Nat.add_assoc _ _ _))⟩))))
    go_ret
    exact ⟨by first | rfl | (simp [errW_none, errW_some] <;> rfl) | (simp [*, errW_none, errW_some] <;> rfl), bwS⟩
   ·rw [if_neg c12] at H
    exact absurd H (by simp)
  ·rw [if_neg c11] at H
   exact absurd H (by simp)

end Go.Proofs.YtihabmcaplnbcaaGreatDoor.Fn
namespace Go.Proofs.YtihabmcaplnbcaaGreatDoor.Fn
open Go.RowKit Go.Proofs.YtihabmcaplnbcaaGreatDoorW.PrintWords Go.Proofs.YtihabmcaplnbcaaGreatDoorW.PrintLast Go.Proofs.YtihabmcaplnbcaaGreatDoorW.PrintMore
attribute [local go_sem] max2_int min2_int max_two min_two max_three min_three max_four min_four
set_option linter.unusedVariables false
set_option linter.unusedSimpArgs false

/-! ### bulletinref24_Suffix: function 123 -/
def bulletinref24_Suffix.f (a0 : Int) : Option (ByteArray) := (some (([(⟨#[]⟩ : ByteArray), (⟨#[]⟩ : ByteArray), (⟨#[45, 114, 101, 113, 117, 101, 115, 116]⟩ : ByteArray), (⟨#[45, 111, 119, 110, 101, 114]⟩ : ByteArray), (⟨#[45, 99, 111, 110, 102, 105, 114, 109]⟩ : ByteArray), (⟨#[45, 98, 111, 117, 110, 99, 101, 115]⟩ : ByteArray)] : List ByteArray) : List ByteArray)).bind fun y311 => (if 0 ≤ a0 then (if a0 < (y311.length : Int) then (some (rdOf ByteArray.empty y311 a0)) else (none)) else (none))
set_option maxHeartbeats 8000000 in
set_option maxRecDepth 100000 in
theorem bulletinref24_Suffix.calls (a0 : Int) (r : ByteArray) (w : World) (h : bulletinref24_Suffix.f a0 = some r) :
  Calls Tryz.prog 123 #[.int .i64 a0] w fun e w' => e = .returned (.string r) ∧ Below w.heap.size w w' := by
 have HB := Aside0.mk (Below.refl w.heap.size w)
 have H : ((some (([(⟨#[]⟩ : ByteArray), (⟨#[]⟩ : ByteArray), (⟨#[45, 114, 101, 113, 117, 101, 115, 116]⟩ : ByteArray), (⟨#[45, 111, 119, 110, 101, 114]⟩ : ByteArray), (⟨#[45, 99, 111, 110, 102, 105, 114, 109]⟩ : ByteArray), (⟨#[45, 98, 111, 117, 110, 99, 101, 115]⟩ : ByteArray)] : List ByteArray) : List ByteArray)).bind fun y311 => (if 0 ≤ a0 then (if a0 < (y311.length : Int) then (some (rdOf ByteArray.empty y311 a0)) else (none)) else (none))) = some r := h
 clear h
 obtain ⟨y311, hy311⟩ : ∃ y_ : List ByteArray, y_ = (([(⟨#[]⟩ : ByteArray), (⟨#[]⟩ : ByteArray), (⟨#[45, 114, 101, 113, 117, 101, 115, 116]⟩ : ByteArray), (⟨#[45, 111, 119, 110, 101, 114]⟩ : ByteArray), (⟨#[45, 99, 111, 110, 102, 105, 114, 109]⟩ : ByteArray), (⟨#[45, 98, 111, 117, 110, 99, 101, 115]⟩ : ByteArray)] : List ByteArray)) := ⟨_, rfl⟩
 replace H : (if 0 ≤ a0 then (if a0 < (y311.length : Int) then (some (rdOf ByteArray.empty y311 a0)) else (none)) else (none)) = some r := by first | (rw [hy311]; with_reducible exact H) | (have H2_ := (Option.bind_some _ _).symm.trans H; rw [hy311]; with_reducible exact H2_) | (have H2_ := (Option.bind_some _ _).symm.trans H; with_reducible exact H2_) | with_reducible exact H | (rw [hy311]; exact H) | exact H
 have Ny311 := Aside0.mk hy311
 clear hy311
 by_cases c2 : 0 ≤ a0
 ·rw [if_pos c2] at H
  have c2b0 : decide (0 ≤ a0) = true := decide_eq_true c2
  clear c2
  by_cases c3 : a0 < (y311.length : Int)
  ·rw [if_pos c3] at H
   have c3b0 : decide (a0 < (y311.length : Int)) = true := decide_eq_true c3
   clear c3
   obtain rfl := Option.some.inj H
   go_enter Tryz.func123, Tryz.ntmps123
   go_wp2_with (first | ((with_reducible refine gate_dst (N := 4) rfl ?_); refine Kd.R_lit Kd.string _ 9 ?hg (N := 4) ?hd (xs := ([(⟨#[]⟩ : ByteArray), (⟨#[]⟩ : ByteArray), (⟨#[45, 114, 101, 113, 117, 101, 115, 116]⟩ : ByteArray), (⟨#[45, 111, 119, 110, 101, 114]⟩ : ByteArray), (⟨#[45, 99, 111, 110, 102, 105, 114, 109]⟩ : ByteArray), (⟨#[45, 98, 111, 117, 110, 99, 101, 115]⟩ : ByteArray)] : List ByteArray)) (inner := [.string (⟨#[]⟩ : ByteArray), .string (⟨#[]⟩ : ByteArray), .string (⟨#[45, 114, 101, 113, 117, 101, 115, 116]⟩ : ByteArray), .string (⟨#[45, 111, 119, 110, 101, 114]⟩ : ByteArray), .string (⟨#[45, 99, 111, 110, 102, 105, 114, 109]⟩ : ByteArray), .string (⟨#[45, 98, 111, 117, 110, 99, 101, 115]⟩ : ByteArray)]) (ok := fun _ => True) (okp := fun _ => True) ?hr ?hp (fun _ hk => hk) trivial (Below.refl _ _) (Nat.le_refl _) (by simp) ?_; (case hd => rfl); (case hg => rfl); (case hr => first | (go_simp; done) | (go_simp; rfl)); (case hp => exact (Reps.one (show Kd.M Kd.string _ _ _ (⟨#[]⟩ : ByteArray) [.string (⟨#[]⟩ : ByteArray)] from rfl) (Reps.one (show Kd.M Kd.string _ _ _ (⟨#[]⟩ : ByteArray) [.string (⟨#[]⟩ : ByteArray)] from rfl) (Reps.one (show Kd.M Kd.string _ _ _ (⟨#[45, 114, 101, 113, 117, 101, 115, 116]⟩ : ByteArray) [.string (⟨#[45, 114, 101, 113, 117, 101, 115, 116]⟩ : ByteArray)] from rfl) (Reps.one (show Kd.M Kd.string _ _ _ (⟨#[45, 111, 119, 110, 101, 114]⟩ : ByteArray) [.string (⟨#[45, 111, 119, 110, 101, 114]⟩ : ByteArray)] from rfl) (Reps.one (show Kd.M Kd.string _ _ _ (⟨#[45, 99, 111, 110, 102, 105, 114, 109]⟩ : ByteArray) [.string (⟨#[45, 99, 111, 110, 102, 105, 114, 109]⟩ : ByteArray)] from rfl) (Reps.one (show Kd.M Kd.string _ _ _ (⟨#[45, 98, 111, 117, 110, 99, 101, 115]⟩ : ByteArray) [.string (⟨#[45, 98, 111, 117, 110, 99, 101, 115]⟩ : ByteArray)] from rfl) (Reps.none _ _)))))))); intro v312 w4 ho5 hb hg_ hnew_; clear hg_ hnew_; (first | rw [← Ny311.out] at ho5 | (simp only [Int.reduceToNat] at ho5; rw [← Ny311.out] at ho5)); have n0_ := Aside0.mk (Kd.R_lower ho5 (below_size bw)); have n1_ := Aside0.mk (below_step bw hb); clear HB; have HO313 := n0_; have HB := n1_; clear n0_ n1_; clear hb ho5; obtain ⟨Ao6, co6, eo6⟩ := Kd.R_slice HO313.out; subst eo6; have p314 : 0 ≤ (a0 : Int) := od; have q314 : a0 < (y311.length : Int) := od; obtain ⟨ad314, e314, hx314_0⟩ := Kd.at_string (Kd.R_reads' HO313.out).2.2 a0 p314 q314; cases e314; replace p314 := eq_true p314; replace q314 := eq_true q314))
   go_ret
   exact ⟨by first | rfl | (simp [errW_none, errW_some] <;> rfl) | (simp [*, errW_none, errW_some] <;> rfl), bw⟩
  ·rw [if_neg c3] at H
   exact absurd H (by simp)
 ·rw [if_neg c2] at H
  exact absurd H (by simp)

end Go.Proofs.YtihabmcaplnbcaaGreatDoor.Fn
namespace Go.Proofs.YtihabmcaplnbcaaGreatDoor.Fn
open Go.RowKit Go.Proofs.YtihabmcaplnbcaaGreatDoorW.PrintWords Go.Proofs.YtihabmcaplnbcaaGreatDoorW.PrintLast Go.Proofs.YtihabmcaplnbcaaGreatDoorW.PrintMore
attribute [local go_sem] max2_int min2_int max_two min_two max_three min_three max_four min_four
set_option linter.unusedVariables false
set_option linter.unusedSimpArgs false

/-! ### bulletinref24_Local: function 74 -/
def bulletinref24_Local.j0 : Nat → ByteArray → Int → ByteArray → Bool → Option (ByteArray)
 | 0, _, _, _, _ => none
 | k + 1, x0, x1, x2, x12 => if x12 = true then (some (⟨#[]⟩ : ByteArray)) else (if x1 ≥ 4 then ((bulletinref24_Suffix.f x1).bind fun t315 => (if x0.size + t315.size ≤ 9223372036854775807 then (if (x0 ++ t315).size + 1 ≤ 9223372036854775807 then (if ((x0 ++ t315) ++ (⟨#[43]⟩ : ByteArray)).size + x2.size ≤ 9223372036854775807 then (some (((x0 ++ t315) ++ (⟨#[43]⟩ : ByteArray)) ++ x2)) else (none)) else (none)) else (none))) else ((bulletinref24_Suffix.f x1).bind fun t316 => (if x0.size + t316.size ≤ 9223372036854775807 then (some (x0 ++ t316)) else (none))))
def bulletinref24_Local.f (k : Nat) (a0 : ByteArray) (a1 : Int) (a2 : ByteArray) : Option (ByteArray) := if a1 < 1 then (bulletinref24_Local.j0 k a0 a1 a2 true) else (bulletinref24_Local.j0 k a0 a1 a2 (decide (a1 > 5)))
set_option maxHeartbeats 8000000 in
set_option maxRecDepth 100000 in
theorem bulletinref24_Local.calls (k : Nat) (a0 : ByteArray) (a1 : Int) (a2 : ByteArray) (r : ByteArray) (w : World) (h : bulletinref24_Local.f k a0 a1 a2 = some r) :
  Calls Tryz.prog 74 #[.string a0, .int .i64 a1, .string a2] w fun e w' => e = .returned (.string r) ∧ Below w.heap.size w w' := by
 have HB := Aside0.mk (Below.refl w.heap.size w)
 have H : (if a1 < 1 then (bulletinref24_Local.j0 k a0 a1 a2 true) else (bulletinref24_Local.j0 k a0 a1 a2 (decide (a1 > 5)))) = some r := h
 clear h
 have HC4 := Aside0.mk H
 clear H
 go_enter Tryz.func74, Tryz.ntmps74
 go_upto_region 1 with (fail)
 go_cut [12] (fun v12 wc => ∃ (kq : Nat) (x12_3 : Bool), v12 = .bool x12_3 ∧ Aside0 (bulletinref24_Local.j0 kq a0 a1 a2 x12_3 = some r) ∧ Aside0 (kq ≤ k) ∧ Aside0 (Below w.heap.size w wc))
 case first =>
  have H := HC4.out
  clear HC4
  by_cases c5 : a1 < 1
  ·rw [if_pos c5] at H
   have c5b0 : decide (a1 < 1) = true := decide_eq_true c5
   clear c5
   (first | rw [c5b0] | (simp only [i64_w, i32_w]; rw [c5b0]) | skip)
   have H' := Aside0.mk H
   clear H
   go_wp2
   go_meet
   case rel => exact ⟨_, (true), cl, H', ⟨by first | omega | exact Nat.le_refl _⟩, ⟨bw⟩⟩
  ·rw [if_neg c5] at H
   have c5b0 : decide (a1 < 1) = false := decide_eq_false c5
   clear c5
   (first | rw [c5b0] | (simp only [i64_w, i32_w]; rw [c5b0]) | skip)
   have H' := Aside0.mk H
   clear H
   go_wp2
   go_meet
   case rel => exact ⟨_, (decide (a1 > 5)), cl, H', ⟨by first | omega | exact Nat.le_refl _⟩, ⟨bw⟩⟩
 case rest =>
  clear HC4
  try clear p2
  try clear c5
  try clear c5b0
  obtain ⟨kq, x12_3, rfl, HA, HJ3, HB⟩ := hcut
  cases kq with
  | zero => exact absurd HA.out (by simp [bulletinref24_Local.j0])
  | succ kj3 =>
   have H := HA.out
   clear HA
   simp only [bulletinref24_Local.j0] at H
   by_cases c6 : x12_3 = true
   ·subst c6
    have H1 : (some (⟨#[]⟩ : ByteArray)) = some r := by rw [if_pos rfl] at H; exact H
    clear H
    have H := H1
    clear H1
    obtain rfl := Option.some.inj H
    go_wp2
    go_ret
    exact ⟨by first | rfl | (simp [errW_none, errW_some] <;> rfl) | (simp [*, errW_none, errW_some] <;> rfl), bw⟩
   ·replace c6 := Bool.eq_false_iff.mpr c6
    subst c6
    have H1 : (if a1 ≥ 4 then ((bulletinref24_Suffix.f a1).bind fun t315 => (if a0.size + t315.size ≤ 9223372036854775807 then (if (a0 ++ t315).size + 1 ≤ 9223372036854775807 then (if ((a0 ++ t315) ++ (⟨#[43]⟩ : ByteArray)).size + a2.size ≤ 9223372036854775807 then (some (((a0 ++ t315) ++ (⟨#[43]⟩ : ByteArray)) ++ a2)) else (none)) else (none)) else (none))) else ((bulletinref24_Suffix.f a1).bind fun t316 => (if a0.size + t316.size ≤ 9223372036854775807 then (some (a0 ++ t316)) else (none)))) = some r := by rw [if_neg (show ¬ (false = true) by decide)] at H; exact H
    clear H
    have H := H1
    clear H1
    by_cases c7 : a1 ≥ 4
    ·rw [if_pos c7] at H
     have c7b0 : decide (4 ≤ a1) = true := decide_eq_true c7
     clear c7
     replace H := Option.bind_eq_some_iff.mp H
     obtain ⟨t315, A80, H⟩ := H
     replace H : (if a0.size + t315.size ≤ 9223372036854775807 then (if (a0 ++ t315).size + 1 ≤ 9223372036854775807 then (if ((a0 ++ t315) ++ (⟨#[43]⟩ : ByteArray)).size + a2.size ≤ 9223372036854775807 then (some (((a0 ++ t315) ++ (⟨#[43]⟩ : ByteArray)) ++ a2)) else (none)) else (none)) else (none)) = some r := H
     have A8 := Aside0.mk A80
     clear A80
     by_cases c9 : a0.size + t315.size ≤ 9223372036854775807
     ·rw [if_pos c9] at H
      have c9b0 := eq_true c9
      have c9b1 : decide (a0.size + t315.size ≤ 9223372036854775807) = true := decide_eq_true c9
      try have c9b2 : (9223372036854775807 < a0.size + t315.size) = False := eq_false (Nat.not_lt.2 c9)
      by_cases c10 : (a0 ++ t315).size + 1 ≤ 9223372036854775807
      ·rw [if_pos c10] at H
       have c10b0 := eq_true c10
       have c10b1 : decide ((a0 ++ t315).size + 1 ≤ 9223372036854775807) = true := decide_eq_true c10
       try have c10b2 : (9223372036854775807 < (a0 ++ t315).size + 1) = False := eq_false (Nat.not_lt.2 c10)
       try (have c10b3 := c10; simp only [ByteArray.size_append, size_lit, ByteArray.size_extract, List.size_toArray, List.length_cons, List.length_nil, Nat.zero_add, Nat.reduceAdd] at c10b3; have c10b4 := eq_false (Nat.not_lt.2 c10b3))
       by_cases c11 : ((a0 ++ t315) ++ (⟨#[43]⟩ : ByteArray)).size + a2.size ≤ 9223372036854775807
       ·rw [if_pos c11] at H
        have c11b0 := eq_true c11
        have c11b1 : decide (((a0 ++ t315) ++ (⟨#[43]⟩ : ByteArray)).size + a2.size ≤ 9223372036854775807) = true := decide_eq_true c11
        try have c11b2 : (9223372036854775807 < ((a0 ++ t315) ++ (⟨#[43]⟩ : ByteArray)).size + a2.size) = False := eq_false (Nat.not_lt.2 c11)
        try (have c11b3 := c11; simp only [ByteArray.size_append, size_lit, ByteArray.size_extract, List.size_toArray, List.length_cons, List.length_nil, Nat.zero_add, Nat.reduceAdd] at c11b3; have c11b4 := eq_false (Nat.not_lt.2 c11b3))
        obtain rfl := Option.some.inj H
        go_wp2_with (first | ((with_reducible refine gate_callee (f := 123) rfl ?_); refine goesL_ (some 17) rfl rfl Tryz.func123 (by kernel_rfl) rfl #[.int .i64 a1] rfl am ?_; (with_reducible refine (bulletinref24_Suffix.calls a1 t315 _ A8.out).mono ?_); rintro e w12 ⟨rfl, hb⟩; refine ⟨_, rfl, ?_⟩; have n0_ := Aside0.mk (below_step bw hb); clear HB; have HB := n0_; clear n0_; (try clear hb); (try clear hb2); (try clear hk); (try clear hi)))
        go_ret
        exact ⟨by first | rfl | (simp [errW_none, errW_some] <;> rfl) | (simp [*, errW_none, errW_some] <;> rfl), bw⟩
       ·rw [if_neg c11] at H
        exact absurd H (by simp)
      ·rw [if_neg c10] at H
       exact absurd H (by simp)
     ·rw [if_neg c9] at H
      exact absurd H (by simp)
    ·rw [if_neg c7] at H
     have c7b0 : decide (4 ≤ a1) = false := decide_eq_false c7
     clear c7
     replace H := Option.bind_eq_some_iff.mp H
     obtain ⟨t316, A130, H⟩ := H
     replace H : (if a0.size + t316.size ≤ 9223372036854775807 then (some (a0 ++ t316)) else (none)) = some r := H
     have A13 := Aside0.mk A130
     clear A130
     by_cases c14 : a0.size + t316.size ≤ 9223372036854775807
     ·rw [if_pos c14] at H
      have c14b0 := eq_true c14
      have c14b1 : decide (a0.size + t316.size ≤ 9223372036854775807) = true := decide_eq_true c14
      try have c14b2 : (9223372036854775807 < a0.size + t316.size) = False := eq_false (Nat.not_lt.2 c14)
      obtain rfl := Option.some.inj H
      go_wp2_with (first | ((with_reducible refine gate_callee (f := 123) rfl ?_); refine goesL_ (some 24) rfl rfl Tryz.func123 (by kernel_rfl) rfl #[.int .i64 a1] rfl am ?_; (with_reducible refine (bulletinref24_Suffix.calls a1 t316 _ A13.out).mono ?_); rintro e w15 ⟨rfl, hb⟩; refine ⟨_, rfl, ?_⟩; have n0_ := Aside0.mk (below_step bw hb); clear HB; have HB := n0_; clear n0_; (try clear hb); (try clear hb2); (try clear hk); (try clear hi)))
      go_ret
      exact ⟨by first | rfl | (simp [errW_none, errW_some] <;> rfl) | (simp [*, errW_none, errW_some] <;> rfl), bw⟩
     ·rw [if_neg c14] at H
      exact absurd H (by simp)

end Go.Proofs.YtihabmcaplnbcaaGreatDoor.Fn
namespace Go.Proofs.YtihabmcaplnbcaaGreatDoor.Fn
open Go.RowKit Go.Proofs.YtihabmcaplnbcaaGreatDoorW.PrintWords Go.Proofs.YtihabmcaplnbcaaGreatDoorW.PrintLast Go.Proofs.YtihabmcaplnbcaaGreatDoorW.PrintMore
attribute [local go_sem] max2_int min2_int max_two min_two max_three min_three max_four min_four
set_option linter.unusedVariables false
set_option linter.unusedSimpArgs false

/-! ### bulletinref36_To: function 38 -/
def bulletinref36_To.f (k : Nat) (a0 : ByteArray) (a1 : ByteArray) (a2 : Int) (a3 : ByteArray) : Option (ByteArray) := (bulletinref24_Local.f k a1 a2 a3).bind fun t317 => ((bulletinref13_Text.f k t317 a0).bind fun t318 => (some t318))
set_option maxHeartbeats 8000000 in
set_option maxRecDepth 100000 in
theorem bulletinref36_To.calls (k : Nat) (a0 : ByteArray) (a1 : ByteArray) (a2 : Int) (a3 : ByteArray) (r : ByteArray) (w : World) (h : bulletinref36_To.f k a0 a1 a2 a3 = some r) :
  Calls Tryz.prog 38 #[.string a0, .string a1, .int .i64 a2, .string a3] w fun e w' => e = .returned (.string r) ∧ Below w.heap.size w w' := by
 have hu44 := Tryz.underlying44
 have HB := Aside0.mk (Below.refl w.heap.size w)
 have H : ((bulletinref24_Local.f k a1 a2 a3).bind fun t317 => ((bulletinref13_Text.f k t317 a0).bind fun t318 => (some t318))) = some r := h
 clear h
 replace H := Option.bind_eq_some_iff.mp H
 obtain ⟨t317, A50, H⟩ := H
 replace H : ((bulletinref13_Text.f k t317 a0).bind fun t318 => (some t318)) = some r := H
 have A5 := Aside0.mk A50
 clear A50
 replace H := Option.bind_eq_some_iff.mp H
 obtain ⟨t318, A60, H⟩ := H
 replace H : (some t318) = some r := H
 have A6 := Aside0.mk A60
 clear A60
 obtain rfl := Option.some.inj H
 go_enter Tryz.func38, Tryz.ntmps38
 go_wp2_with (first | ((with_reducible refine gate_callee (f := 74) rfl ?_); refine goesL_ (some 12) rfl rfl Tryz.func74 (by kernel_rfl) rfl #[.string a1, .int .i64 a2, .string a3] rfl am ?_; (with_reducible refine (bulletinref24_Local.calls k a1 a2 a3 t317 _ A5.out).mono ?_); rintro e w7 ⟨rfl, hb⟩; refine ⟨_, rfl, ?_⟩; have n0_ := Aside0.mk (below_step bw hb); clear HB; have HB := n0_; clear n0_; (try clear hb); (try clear hb2); (try clear hk); (try clear hi)) | ((with_reducible refine gate_callee (f := 73) rfl ?_); refine goesL_ (some 15) rfl rfl Tryz.func73 (by kernel_rfl) rfl #[.agg #[.string t317, .string a0]] rfl am ?_; (with_reducible refine (bulletinref13_Text.calls k t317 a0 t318 _ A6.out).mono ?_); rintro e w8 ⟨rfl, hb⟩; refine ⟨_, rfl, ?_⟩; have n0_ := Aside0.mk (below_step bw hb); clear HB; have HB := n0_; clear n0_; (try clear hb); (try clear hb2); (try clear hk); (try clear hi)))
 go_ret
 exact ⟨by first | rfl | (simp [errW_none, errW_some] <;> rfl) | (simp [*, errW_none, errW_some] <;> rfl), bw⟩

end Go.Proofs.YtihabmcaplnbcaaGreatDoor.Fn
namespace Go.Proofs.YtihabmcaplnbcaaGreatDoor.Fn
open Go.RowKit Go.Proofs.YtihabmcaplnbcaaGreatDoorW.PrintWords Go.Proofs.YtihabmcaplnbcaaGreatDoorW.PrintLast Go.Proofs.YtihabmcaplnbcaaGreatDoorW.PrintMore
attribute [local go_sem] max2_int min2_int max_two min_two max_three min_three max_four min_four
set_option linter.unusedVariables false
set_option linter.unusedSimpArgs false

/-! ### bulletinref36_Copy: function 12 -/
def bulletinref36_Copy.f (k : Nat) (a0 : ByteArray) (a1 : ByteArray) (l2_0 : List (S74)) (a2_1 : ByteArray) (a3 : ByteArray) : Option ((List (S74)) × ByteArray) := (some (([] : List (S74)) : List (S74))).bind fun y321 => (if y321.length + l2_0.length < 4398046511104 then ((some (y321 ++ l2_0 : List (S74))).bind fun y324 => ((bulletinref36_To.f k a0 a1 4 a3).bind fun t327 => (if 8 + t327.size ≤ 9223372036854775807 then (if ((⟨#[60, 109, 97, 105, 108, 116, 111, 58]⟩ : ByteArray) ++ t327).size + 12 ≤ 9223372036854775807 then (if (((⟨#[60, 109, 97, 105, 108, 116, 111, 58]⟩ : ByteArray) ++ t327) ++ (⟨#[62, 44, 32, 60, 104, 116, 116, 112, 115, 58, 47, 47]⟩ : ByteArray)).size + a0.size ≤ 9223372036854775807 then (if ((((⟨#[60, 109, 97, 105, 108, 116, 111, 58]⟩ : ByteArray) ++ t327) ++ (⟨#[62, 44, 32, 60, 104, 116, 116, 112, 115, 58, 47, 47]⟩ : ByteArray)) ++ a0).size + 7 ≤ 9223372036854775807 then (if (((((⟨#[60, 109, 97, 105, 108, 116, 111, 58]⟩ : ByteArray) ++ t327) ++ (⟨#[62, 44, 32, 60, 104, 116, 116, 112, 115, 58, 47, 47]⟩ : ByteArray)) ++ a0) ++ (⟨#[47, 108, 101, 97, 118, 101, 47]⟩ : ByteArray)).size + a3.size ≤ 9223372036854775807 then (if ((((((⟨#[60, 109, 97, 105, 108, 116, 111, 58]⟩ : ByteArray) ++ t327) ++ (⟨#[62, 44, 32, 60, 104, 116, 116, 112, 115, 58, 47, 47]⟩ : ByteArray)) ++ a0) ++ (⟨#[47, 108, 101, 97, 118, 101, 47]⟩ : ByteArray)) ++ a3).size + 1 ≤ 9223372036854775807 then (if y324.length < 4398046511104 then ((some (y324 ++ [(⟨(⟨#[76, 105, 115, 116, 45, 85, 110, 115, 117, 98, 115, 99, 114, 105, 98, 101]⟩ : ByteArray), ((((((⟨#[60, 109, 97, 105, 108, 116, 111, 58]⟩ : ByteArray) ++ t327) ++ (⟨#[62, 44, 32, 60, 104, 116, 116, 112, 115, 58, 47, 47]⟩ : ByteArray)) ++ a0) ++ (⟨#[47, 108, 101, 97, 118, 101, 47]⟩ : ByteArray)) ++ a3) ++ (⟨#[62]⟩ : ByteArray)⟩ : S74)] : List (S74))).bind fun y328 => (if y328.length < 4398046511104 then (some ((y328 ++ [(⟨(⟨#[76, 105, 115, 116, 45, 85, 110, 115, 117, 98, 115, 99, 114, 105, 98, 101, 45, 80, 111, 115, 116]⟩ : ByteArray), (⟨#[76, 105, 115, 116, 45, 85, 110, 115, 117, 98, 115, 99, 114, 105, 98, 101, 61, 79, 110, 101, 45, 67, 108, 105, 99, 107]⟩ : ByteArray)⟩ : S74)]), a2_1)) else (none))) else (none)) else (none)) else (none)) else (none)) else (none)) else (none)) else (none)))) else (none))
set_option maxHeartbeats 8000000 in
set_option maxRecDepth 100000 in
theorem bulletinref36_Copy.calls (k : Nat) (a0 : ByteArray) (a1 : ByteArray) (A2_0 : Option Addr) (c2_0 : Nat) (l2_0 : List (S74)) (a2_1 : ByteArray) (a3 : ByteArray) (r1 : List (S74)) (r2 : ByteArray) (w : World) (hr2_0 : Kd.C k74 w A2_0 l2_0.length l2_0) (hc2_0 : l2_0.length ≤ c2_0) (h : bulletinref36_Copy.f k a0 a1 l2_0 a2_1 a3 = some (r1, r2)) :
  Calls Tryz.prog 12 #[.string a0, .string a1, .agg #[.slice A2_0 l2_0.length c2_0, .string a2_1], .string a3] w fun e w' => ∃ v0_ : Value, e = .returned (.agg #[v0_, .string r2]) ∧ Kd.R k74 74 w' w.heap.size (fun _ => True) v0_ r1 ∧ Below w.heap.size w w' := by
 have hu24 := Tryz.underlying24
 have hu74 := Tryz.underlying74
 have HR2_0 := Aside0.mk hr2_0
 have HC2_0 := Aside0.mk hc2_0
 clear hr2_0 hc2_0
 have HB := Aside0.mk (Below.refl w.heap.size w)
 have H : ((some (([] : List (S74)) : List (S74))).bind fun y321 => (if y321.length + l2_0.length < 4398046511104 then ((some (y321 ++ l2_0 : List (S74))).bind fun y324 => ((bulletinref36_To.f k a0 a1 4 a3).bind fun t327 => (if 8 + t327.size ≤ 9223372036854775807 then (if ((⟨#[60, 109, 97, 105, 108, 116, 111, 58]⟩ : ByteArray) ++ t327).size + 12 ≤ 9223372036854775807 then (if (((⟨#[60, 109, 97, 105, 108, 116, 111, 58]⟩ : ByteArray) ++ t327) ++ (⟨#[62, 44, 32, 60, 104, 116, 116, 112, 115, 58, 47, 47]⟩ : ByteArray)).size + a0.size ≤ 9223372036854775807 then (if ((((⟨#[60, 109, 97, 105, 108, 116, 111, 58]⟩ : ByteArray) ++ t327) ++ (⟨#[62, 44, 32, 60, 104, 116, 116, 112, 115, 58, 47, 47]⟩ : ByteArray)) ++ a0).size + 7 ≤ 9223372036854775807 then (if (((((⟨#[60, 109, 97, 105, 108, 116, 111, 58]⟩ : ByteArray) ++ t327) ++ (⟨#[62, 44, 32, 60, 104, 116, 116, 112, 115, 58, 47, 47]⟩ : ByteArray)) ++ a0) ++ (⟨#[47, 108, 101, 97, 118, 101, 47]⟩ : ByteArray)).size + a3.size ≤ 9223372036854775807 then (if ((((((⟨#[60, 109, 97, 105, 108, 116, 111, 58]⟩ : ByteArray) ++ t327) ++ (⟨#[62, 44, 32, 60, 104, 116, 116, 112, 115, 58, 47, 47]⟩ : ByteArray)) ++ a0) ++ (⟨#[47, 108, 101, 97, 118, 101, 47]⟩ : ByteArray)) ++ a3).size + 1 ≤ 9223372036854775807 then (if y324.length < 4398046511104 then ((some (y324 ++ [(⟨(⟨#[76, 105, 115, 116, 45, 85, 110, 115, 117, 98, 115, 99, 114, 105, 98, 101]⟩ : ByteArray), ((((((⟨#[60, 109, 97, 105, 108, 116, 111, 58]⟩ : ByteArray) ++ t327) ++ (⟨#[62, 44, 32, 60, 104, 116, 116, 112, 115, 58, 47, 47]⟩ : ByteArray)) ++ a0) ++ (⟨#[47, 108, 101, 97, 118, 101, 47]⟩ : ByteArray)) ++ a3) ++ (⟨#[62]⟩ : ByteArray)⟩ : S74)] : List (S74))).bind fun y328 => (if y328.length < 4398046511104 then (some ((y328 ++ [(⟨(⟨#[76, 105, 115, 116, 45, 85, 110, 115, 117, 98, 115, 99, 114, 105, 98, 101, 45, 80, 111, 115, 116]⟩ : ByteArray), (⟨#[76, 105, 115, 116, 45, 85, 110, 115, 117, 98, 115, 99, 114, 105, 98, 101, 61, 79, 110, 101, 45, 67, 108, 105, 99, 107]⟩ : ByteArray)⟩ : S74)]), a2_1)) else (none))) else (none)) else (none)) else (none)) else (none)) else (none)) else (none)) else (none)))) else (none))) = some (r1, r2) := h
 clear h
 obtain ⟨y321, hy321⟩ : ∃ y_ : List (S74), y_ = (([] : List (S74))) := ⟨_, rfl⟩
 replace H : (if y321.length + l2_0.length < 4398046511104 then ((some (y321 ++ l2_0 : List (S74))).bind fun y324 => ((bulletinref36_To.f k a0 a1 4 a3).bind fun t327 => (if 8 + t327.size ≤ 9223372036854775807 then (if ((⟨#[60, 109, 97, 105, 108, 116, 111, 58]⟩ : ByteArray) ++ t327).size + 12 ≤ 9223372036854775807 then (if (((⟨#[60, 109, 97, 105, 108, 116, 111, 58]⟩ : ByteArray) ++ t327) ++ (⟨#[62, 44, 32, 60, 104, 116, 116, 112, 115, 58, 47, 47]⟩ : ByteArray)).size + a0.size ≤ 9223372036854775807 then (if ((((⟨#[60, 109, 97, 105, 108, 116, 111, 58]⟩ : ByteArray) ++ t327) ++ (⟨#[62, 44, 32, 60, 104, 116, 116, 112, 115, 58, 47, 47]⟩ : ByteArray)) ++ a0).size + 7 ≤ 9223372036854775807 then (if (((((⟨#[60, 109, 97, 105, 108, 116, 111, 58]⟩ : ByteArray) ++ t327) ++ (⟨#[62, 44, 32, 60, 104, 116, 116, 112, 115, 58, 47, 47]⟩ : ByteArray)) ++ a0) ++ (⟨#[47, 108, 101, 97, 118, 101, 47]⟩ : ByteArray)).size + a3.size ≤ 9223372036854775807 then (if ((((((⟨#[60, 109, 97, 105, 108, 116, 111, 58]⟩ : ByteArray) ++ t327) ++ (⟨#[62, 44, 32, 60, 104, 116, 116, 112, 115, 58, 47, 47]⟩ : ByteArray)) ++ a0) ++ (⟨#[47, 108, 101, 97, 118, 101, 47]⟩ : ByteArray)) ++ a3).size + 1 ≤ 9223372036854775807 then (if y324.length < 4398046511104 then ((some (y324 ++ [(⟨(⟨#[76, 105, 115, 116, 45, 85, 110, 115, 117, 98, 115, 99, 114, 105, 98, 101]⟩ : ByteArray), ((((((⟨#[60, 109, 97, 105, 108, 116, 111, 58]⟩ : ByteArray) ++ t327) ++ (⟨#[62, 44, 32, 60, 104, 116, 116, 112, 115, 58, 47, 47]⟩ : ByteArray)) ++ a0) ++ (⟨#[47, 108, 101, 97, 118, 101, 47]⟩ : ByteArray)) ++ a3) ++ (⟨#[62]⟩ : ByteArray)⟩ : S74)] : List (S74))).bind fun y328 => (if y328.length < 4398046511104 then (some ((y328 ++ [(⟨(⟨#[76, 105, 115, 116, 45, 85, 110, 115, 117, 98, 115, 99, 114, 105, 98, 101, 45, 80, 111, 115, 116]⟩ : ByteArray), (⟨#[76, 105, 115, 116, 45, 85, 110, 115, 117, 98, 115, 99, 114, 105, 98, 101, 61, 79, 110, 101, 45, 67, 108, 105, 99, 107]⟩ : ByteArray)⟩ : S74)]), a2_1)) else (none))) else (none)) else (none)) else (none)) else (none)) else (none)) else (none)) else (none)))) else (none)) = some (r1, r2) := by first | (rw [hy321]; with_reducible exact H) | (have H2_ := (Option.bind_some _ _).symm.trans H; rw [hy321]; with_reducible exact H2_) | (have H2_ := (Option.bind_some _ _).symm.trans H; with_reducible exact H2_) | with_reducible exact H | (rw [hy321]; exact H) | exact H
 have Ny321 := Aside0.mk hy321
 clear hy321
 by_cases c5 : y321.length + l2_0.length < 4398046511104
 ·rw [if_pos c5] at H
  have LMc5 := Aside0.mk c5
  clear c5
  obtain ⟨y324, hy324⟩ : ∃ y_ : List (S74), y_ = (y321 ++ l2_0) := ⟨_, rfl⟩
  replace H : ((bulletinref36_To.f k a0 a1 4 a3).bind fun t327 => (if 8 + t327.size ≤ 9223372036854775807 then (if ((⟨#[60, 109, 97, 105, 108, 116, 111, 58]⟩ : ByteArray) ++ t327).size + 12 ≤ 9223372036854775807 then (if (((⟨#[60, 109, 97, 105, 108, 116, 111, 58]⟩ : ByteArray) ++ t327) ++ (⟨#[62, 44, 32, 60, 104, 116, 116, 112, 115, 58, 47, 47]⟩ : ByteArray)).size + a0.size ≤ 9223372036854775807 then (if ((((⟨#[60, 109, 97, 105, 108, 116, 111, 58]⟩ : ByteArray) ++ t327) ++ (⟨#[62, 44, 32, 60, 104, 116, 116, 112, 115, 58, 47, 47]⟩ : ByteArray)) ++ a0).size + 7 ≤ 9223372036854775807 then (if (((((⟨#[60, 109, 97, 105, 108, 116, 111, 58]⟩ : ByteArray) ++ t327) ++ (⟨#[62, 44, 32, 60, 104, 116, 116, 112, 115, 58, 47, 47]⟩ : ByteArray)) ++ a0) ++ (⟨#[47, 108, 101, 97, 118, 101, 47]⟩ : ByteArray)).size + a3.size ≤ 9223372036854775807 then (if ((((((⟨#[60, 109, 97, 105, 108, 116, 111, 58]⟩ : ByteArray) ++ t327) ++ (⟨#[62, 44, 32, 60, 104, 116, 116, 112, 115, 58, 47, 47]⟩ : ByteArray)) ++ a0) ++ (⟨#[47, 108, 101, 97, 118, 101, 47]⟩ : ByteArray)) ++ a3).size + 1 ≤ 9223372036854775807 then (if y324.length < 4398046511104 then ((some (y324 ++ [(⟨(⟨#[76, 105, 115, 116, 45, 85, 110, 115, 117, 98, 115, 99, 114, 105, 98, 101]⟩ : ByteArray), ((((((⟨#[60, 109, 97, 105, 108, 116, 111, 58]⟩ : ByteArray) ++ t327) ++ (⟨#[62, 44, 32, 60, 104, 116, 116, 112, 115, 58, 47, 47]⟩ : ByteArray)) ++ a0) ++ (⟨#[47, 108, 101, 97, 118, 101, 47]⟩ : ByteArray)) ++ a3) ++ (⟨#[62]⟩ : ByteArray)⟩ : S74)] : List (S74))).bind fun y328 => (if y328.length < 4398046511104 then (some ((y328 ++ [(⟨(⟨#[76, 105, 115, 116, 45, 85, 110, 115, 117, 98, 115, 99, 114, 105, 98, 101, 45, 80, 111, 115, 116]⟩ : ByteArray), (⟨#[76, 105, 115, 116, 45, 85, 110, 115, 117, 98, 115, 99, 114, 105, 98, 101, 61, 79, 110, 101, 45, 67, 108, 105, 99, 107]⟩ : ByteArray)⟩ : S74)]), a2_1)) else (none))) else (none)) else (none)) else (none)) else (none)) else (none)) else (none)) else (none))) = some (r1, r2) := by first | (rw [hy324]; with_reducible exact H) | (have H2_ := (Option.bind_some _ _).symm.trans H; rw [hy324]; with_reducible exact H2_) | (have H2_ := (Option.bind_some _ _).symm.trans H; with_reducible exact H2_) | with_reducible exact H | (rw [hy324]; exact H) | exact H
  have Ny324 := Aside0.mk hy324
  clear hy324
  replace H := Option.bind_eq_some_iff.mp H
  obtain ⟨t327, A60, H⟩ := H
  replace H : (if 8 + t327.size ≤ 9223372036854775807 then (if ((⟨#[60, 109, 97, 105, 108, 116, 111, 58]⟩ : ByteArray) ++ t327).size + 12 ≤ 9223372036854775807 then (if (((⟨#[60, 109, 97, 105, 108, 116, 111, 58]⟩ : ByteArray) ++ t327) ++ (⟨#[62, 44, 32, 60, 104, 116, 116, 112, 115, 58, 47, 47]⟩ : ByteArray)).size + a0.size ≤ 9223372036854775807 then (if ((((⟨#[60, 109, 97, 105, 108, 116, 111, 58]⟩ : ByteArray) ++ t327) ++ (⟨#[62, 44, 32, 60, 104, 116, 116, 112, 115, 58, 47, 47]⟩ : ByteArray)) ++ a0).size + 7 ≤ 9223372036854775807 then (if (((((⟨#[60, 109, 97, 105, 108, 116, 111, 58]⟩ : ByteArray) ++ t327) ++ (⟨#[62, 44, 32, 60, 104, 116, 116, 112, 115, 58, 47, 47]⟩ : ByteArray)) ++ a0) ++ (⟨#[47, 108, 101, 97, 118, 101, 47]⟩ : ByteArray)).size + a3.size ≤ 9223372036854775807 then (if ((((((⟨#[60, 109, 97, 105, 108, 116, 111, 58]⟩ : ByteArray) ++ t327) ++ (⟨#[62, 44, 32, 60, 104, 116, 116, 112, 115, 58, 47, 47]⟩ : ByteArray)) ++ a0) ++ (⟨#[47, 108, 101, 97, 118, 101, 47]⟩ : ByteArray)) ++ a3).size + 1 ≤ 9223372036854775807 then (if y324.length < 4398046511104 then ((some (y324 ++ [(⟨(⟨#[76, 105, 115, 116, 45, 85, 110, 115, 117, 98, 115, 99, 114, 105, 98, 101]⟩ : ByteArray), ((((((⟨#[60, 109, 97, 105, 108, 116, 111, 58]⟩ : ByteArray) ++ t327) ++ (⟨#[62, 44, 32, 60, 104, 116, 116, 112, 115, 58, 47, 47]⟩ : ByteArray)) ++ a0) ++ (⟨#[47, 108, 101, 97, 118, 101, 47]⟩ : ByteArray)) ++ a3) ++ (⟨#[62]⟩ : ByteArray)⟩ : S74)] : List (S74))).bind fun y328 => (if y328.length < 4398046511104 then (some ((y328 ++ [(⟨(⟨#[76, 105, 115, 116, 45, 85, 110, 115, 117, 98, 115, 99, 114, 105, 98, 101, 45, 80, 111, 115, 116]⟩ : ByteArray), (⟨#[76, 105, 115, 116, 45, 85, 110, 115, 117, 98, 115, 99, 114, 105, 98, 101, 61, 79, 110, 101, 45, 67, 108, 105, 99, 107]⟩ : ByteArray)⟩ : S74)]), a2_1)) else (none))) else (none)) else (none)) else (none)) else (none)) else (none)) else (none)) else (none)) = some (r1, r2) := H
  have A6 := Aside0.mk A60
  clear A60
  by_cases c7 : 8 + t327.size ≤ 9223372036854775807
  ·rw [if_pos c7] at H
   have c7b0 := eq_true c7
   have c7b1 : decide (8 + t327.size ≤ 9223372036854775807) = true := decide_eq_true c7
   try have c7b2 : (9223372036854775807 < 8 + t327.size) = False := eq_false (Nat.not_lt.2 c7)
   by_cases c8 : ((⟨#[60, 109, 97, 105, 108, 116, 111, 58]⟩ : ByteArray) ++ t327).size + 12 ≤ 9223372036854775807
   ·rw [if_pos c8] at H
    have c8b0 := eq_true c8
    have c8b1 : decide (((⟨#[60, 109, 97, 105, 108, 116, 111, 58]⟩ : ByteArray) ++ t327).size + 12 ≤ 9223372036854775807) = true := decide_eq_true c8
    try have c8b2 : (9223372036854775807 < ((⟨#[60, 109, 97, 105, 108, 116, 111, 58]⟩ : ByteArray) ++ t327).size + 12) = False := eq_false (Nat.not_lt.2 c8)
    try (have c8b3 := c8; simp only [ByteArray.size_append, size_lit, ByteArray.size_extract, List.size_toArray, List.length_cons, List.length_nil, Nat.zero_add, Nat.reduceAdd] at c8b3; have c8b4 := eq_false (Nat.not_lt.2 c8b3))
    by_cases c9 : (((⟨#[60, 109, 97, 105, 108, 116, 111, 58]⟩ : ByteArray) ++ t327) ++ (⟨#[62, 44, 32, 60, 104, 116, 116, 112, 115, 58, 47, 47]⟩ : ByteArray)).size + a0.size ≤ 9223372036854775807
    ·rw [if_pos c9] at H
     have c9b0 := eq_true c9
     have c9b1 : decide ((((⟨#[60, 109, 97, 105, 108, 116, 111, 58]⟩ : ByteArray) ++ t327) ++ (⟨#[62, 44, 32, 60, 104, 116, 116, 112, 115, 58, 47, 47]⟩ : ByteArray)).size + a0.size ≤ 9223372036854775807) = true := decide_eq_true c9
     try have c9b2 : (9223372036854775807 < (((⟨#[60, 109, 97, 105, 108, 116, 111, 58]⟩ : ByteArray) ++ t327) ++ (⟨#[62, 44, 32, 60, 104, 116, 116, 112, 115, 58, 47, 47]⟩ : ByteArray)).size + a0.size) = False := eq_false (Nat.not_lt.2 c9)
     try (have c9b3 := c9; simp only [ByteArray.size_append, size_lit, ByteArray.size_extract, List.size_toArray, List.length_cons, List.length_nil, Nat.zero_add, Nat.reduceAdd] at c9b3; have c9b4 := eq_false (Nat.not_lt.2 c9b3))
     by_cases c10 : ((((⟨#[60, 109, 97, 105, 108, 116, 111, 58]⟩ : ByteArray) ++ t327) ++ (⟨#[62, 44, 32, 60, 104, 116, 116, 112, 115, 58, 47, 47]⟩ : ByteArray)) ++ a0).size + 7 ≤ 9223372036854775807
     ·rw [if_pos c10] at H
      have c10b0 := eq_true c10
      have c10b1 : decide (((((⟨#[60, 109, 97, 105, 108, 116, 111, 58]⟩ : ByteArray) ++ t327) ++ (⟨#[62, 44, 32, 60, 104, 116, 116, 112, 115, 58, 47, 47]⟩ : ByteArray)) ++ a0).size + 7 ≤ 9223372036854775807) = true := decide_eq_true c10
      try have c10b2 : (9223372036854775807 < ((((⟨#[60, 109, 97, 105, 108, 116, 111, 58]⟩ : ByteArray) ++ t327) ++ (⟨#[62, 44, 32, 60, 104, 116, 116, 112, 115, 58, 47, 47]⟩ : ByteArray)) ++ a0).size + 7) = False := eq_false (Nat.not_lt.2 c10)
      try (have c10b3 := c10; simp only [ByteArray.size_append, size_lit, ByteArray.size_extract, List.size_toArray, List.length_cons, List.length_nil, Nat.zero_add, Nat.reduceAdd] at c10b3; have c10b4 := eq_false (Nat.not_lt.2 c10b3))
      by_cases c11 : (((((⟨#[60, 109, 97, 105, 108, 116, 111, 58]⟩ : ByteArray) ++ t327) ++ (⟨#[62, 44, 32, 60, 104, 116, 116, 112, 115, 58, 47, 47]⟩ : ByteArray)) ++ a0) ++ (⟨#[47, 108, 101, 97, 118, 101, 47]⟩ : ByteArray)).size + a3.size ≤ 9223372036854775807
      ·rw [if_pos c11] at H
       have c11b0 := eq_true c11
       have c11b1 : decide ((((((⟨#[60, 109, 97, 105, 108, 116, 111, 58]⟩ : ByteArray) ++ t327) ++ (⟨#[62, 44, 32, 60, 104, 116, 116, 112, 115, 58, 47, 47]⟩ : ByteArray)) ++ a0) ++ (⟨#[47, 108, 101, 97, 118, 101, 47]⟩ : ByteArray)).size + a3.size ≤ 9223372036854775807) = true := decide_eq_true c11
       try have c11b2 : (9223372036854775807 < (((((⟨#[60, 109, 97, 105, 108, 116, 111, 58]⟩ : ByteArray) ++ t327) ++ (⟨#[62, 44, 32, 60, 104, 116, 116, 112, 115, 58, 47, 47]⟩ : ByteArray)) ++ a0) ++ (⟨#[47, 108, 101, 97, 118, 101, 47]⟩ : ByteArray)).size + a3.size) = False := eq_false (Nat.not_lt.2 c11)
       try (have c11b3 := c11; simp only [ByteArray.size_append, size_lit, ByteArray.size_extract, List.size_toArray, List.length_cons, List.length_nil, Nat.zero_add, Nat.reduceAdd] at c11b3; have c11b4 := eq_false (Nat.not_lt.2 c11b3))
       by_cases c12 : ((((((⟨#[60, 109, 97, 105, 108, 116, 111, 58]⟩ : ByteArray) ++ t327) ++ (⟨#[62, 44, 32, 60, 104, 116, 116, 112, 115, 58, 47, 47]⟩ : ByteArray)) ++ a0) ++ (⟨#[47, 108, 101, 97, 118, 101, 47]⟩ : ByteArray)) ++ a3).size + 1 ≤ 9223372036854775807
       ·rw [if_pos c12] at H
        have c12b0 := eq_true c12
        have c12b1 : decide (((((((⟨#[60, 109, 97, 105, 108, 116, 111, 58]⟩ : ByteArray) ++ t327) ++ (⟨#[62, 44, 32, 60, 104, 116, 116, 112, 115, 58, 47, 47]⟩ : ByteArray)) ++ a0) ++ (⟨#[47, 108, 101, 97, 118, 101, 47]⟩ : ByteArray)) ++ a3).size + 1 ≤ 9223372036854775807) = true := decide_eq_true c12
        try have c12b2 : (9223372036854775807 < ((((((⟨#[60, 109, 97, 105, 108, 116, 111, 58]⟩ : ByteArray) ++ t327) ++ (⟨#[62, 44, 32, 60, 104, 116, 116, 112, 115, 58, 47, 47]⟩ : ByteArray)) ++ a0) ++ (⟨#[47, 108, 101, 97, 118, 101, 47]⟩ : ByteArray)) ++ a3).size + 1) = False := eq_false (Nat.not_lt.2 c12)
        try (have c12b3 := c12; simp only [ByteArray.size_append, size_lit, ByteArray.size_extract, List.size_toArray, List.length_cons, List.length_nil, Nat.zero_add, Nat.reduceAdd] at c12b3; have c12b4 := eq_false (Nat.not_lt.2 c12b3))
        by_cases c13 : y324.length < 4398046511104
        ·rw [if_pos c13] at H
         have LMc13 := Aside0.mk c13
         clear c13
         obtain ⟨y328, hy328⟩ : ∃ y_ : List (S74), y_ = (y324 ++ [(⟨(⟨#[76, 105, 115, 116, 45, 85, 110, 115, 117, 98, 115, 99, 114, 105, 98, 101]⟩ : ByteArray), ((((((⟨#[60, 109, 97, 105, 108, 116, 111, 58]⟩ : ByteArray) ++ t327) ++ (⟨#[62, 44, 32, 60, 104, 116, 116, 112, 115, 58, 47, 47]⟩ : ByteArray)) ++ a0) ++ (⟨#[47, 108, 101, 97, 118, 101, 47]⟩ : ByteArray)) ++ a3) ++ (⟨#[62]⟩ : ByteArray)⟩ : S74)]) := ⟨_, rfl⟩
         replace H : (if y328.length < 4398046511104 then (some ((y328 ++ [(⟨(⟨#[76, 105, 115, 116, 45, 85, 110, 115, 117, 98, 115, 99, 114, 105, 98, 101, 45, 80, 111, 115, 116]⟩ : ByteArray), (⟨#[76, 105, 115, 116, 45, 85, 110, 115, 117, 98, 115, 99, 114, 105, 98, 101, 61, 79, 110, 101, 45, 67, 108, 105, 99, 107]⟩ : ByteArray)⟩ : S74)]), a2_1)) else (none)) = some (r1, r2) := by first | (rw [hy328]; with_reducible exact H) | (have H2_ := (Option.bind_some _ _).symm.trans H; rw [hy328]; with_reducible exact H2_) | (have H2_ := (Option.bind_some _ _).symm.trans H; with_reducible exact H2_) | with_reducible exact H | (rw [hy328]; exact H) | exact H
         have Ny328 := Aside0.mk hy328
         clear hy328
         by_cases c14 : y328.length < 4398046511104
         ·rw [if_pos c14] at H
          have LMc14 := Aside0.mk c14
          clear c14
          obtain ⟨y331, hy331⟩ : ∃ y_ : List (S74), y_ = (y328 ++ [(⟨(⟨#[76, 105, 115, 116, 45, 85, 110, 115, 117, 98, 115, 99, 114, 105, 98, 101, 45, 80, 111, 115, 116]⟩ : ByteArray), (⟨#[76, 105, 115, 116, 45, 85, 110, 115, 117, 98, 115, 99, 114, 105, 98, 101, 61, 79, 110, 101, 45, 67, 108, 105, 99, 107]⟩ : ByteArray)⟩ : S74)]) := ⟨_, rfl⟩
          replace H : (some (y331, a2_1)) = some (r1, r2) := by first | (rw [hy331]; with_reducible exact H) | (have H2_ := (Option.bind_some _ _).symm.trans H; rw [hy331]; with_reducible exact H2_) | (have H2_ := (Option.bind_some _ _).symm.trans H; with_reducible exact H2_) | with_reducible exact H | (rw [hy331]; exact H) | exact H
          have Ny331 := Aside0.mk hy331
          clear hy331
          simp only [Option.some.injEq, Prod.mk.injEq] at H
          obtain ⟨rfl, rfl⟩ := H
          go_enter Tryz.func12, Tryz.ntmps12
          go_wp2_with (first | ((with_reducible refine gate_dst (N := 6) rfl ?_); refine box_event ?hg (N := 6) ?hd (cs := #[.slice A2_0 l2_0.length c2_0, .string a2_1]) (t := 24) ?hr ?_; (case hd => rfl); (case hg => rfl); (case hr => first | (go_simp; done) | (go_simp; rfl)); intro gb319 hg w15 hbox hb; have n0_ := Aside0.mk (below_step bw hb); have n1_ := Aside0.mk (hbox); have n2_ := Aside0.mk ((by rw [hg]; exact (below_size bw) : w.heap.size ≤ gb319)); have n3_ := Aside0.mk ((by rw [hg]; exact (below_size bw) : w.heap.size ≤ gb319)); clear HB; have HB := n0_; have BK319 := n1_; have GW319 := n2_; have GE319 := n3_; clear n0_ n1_ n2_ n3_; clear hb hbox hg) | ((with_reducible refine gate_dst (N := 8) rfl ?_); refine box_event ?hg (N := 8) ?hd (cs := #[.slice none 0 0, .string (⟨#[]⟩ : ByteArray)]) (t := 24) ?hr ?_; (case hd => rfl); (case hg => rfl); (case hr => first | (go_simp; done) | (go_simp; rfl)); intro gb320 hg w16 hbox hb; have n0_ := Aside0.mk (blk_below (g := gb319) (o := .cells #[.slice A2_0 l2_0.length c2_0, .string a2_1] 24 (0, 0)) bk hb); have n1_ := Aside0.mk (below_step bwS hb); have n2_ := Aside0.mk (hbox); have n3_ := Aside0.mk ((by rw [hg]; exact (below_size bwS) : w.heap.size ≤ gb320)); have n4_ := Aside0.mk ((by rw [hg]; exact (below_size bwS) : w.heap.size ≤ gb320)); have n5_ := Aside0.mk ((by rw [hg]; exact Nat.ne_of_lt (blk_lt (g := gb319) (o := .cells #[.slice A2_0 l2_0.length c2_0, .string a2_1] 24 (0, 0)) bk) : gb319 ≠ gb320)); have n6_ := Aside0.mk ((by rw [hg]; exact Nat.ne_of_gt (blk_lt (g := gb319) (o := .cells #[.slice A2_0 l2_0.length c2_0, .string a2_1] 24 (0, 0)) bk) : gb320 ≠ gb319)); clear BK319; clear HB; have BK319 := n0_; have HB := n1_; have BK320 := n2_; have GW320 := n3_; have GE320 := n4_; have NB319_320 := n5_; have NB320_319 := n6_; clear n0_ n1_ n2_ n3_ n4_ n5_ n6_; clear hb hbox hg) | ((with_reducible refine gate_dst (N := 10) rfl ?_); refine Kd.R_lit k74 _ 74 ?hg (N := 10) ?hd (xs := ([] : List (S74))) (inner := []) (ok := fun _ => True) (okp := fun _ => True) ?hr ?hp (fun _ hk => hk) trivial (Below.refl _ _) (Nat.le_refl _) (by simp) ?_; (case hd => rfl); (case hg => rfl); (case hr => first | (go_simp; done) | (go_simp; rfl)); (case hp => exact (Reps.none _ _)); intro v322 w17 ho18 hb hg_ hnew_; clear hg_ hnew_; (first | rw [← Ny321.out] at ho18 | (simp only [Int.reduceToNat] at ho18; rw [← Ny321.out] at ho18)); have n0_ := Aside0.mk (Kd.R_lower ho18 (below_size bwS)); have n1_ := Aside0.mk (blk_below (g := gb319) (o := .cells #[.slice A2_0 l2_0.length c2_0, .string a2_1] 24 (0, 0)) bk hb); have n2_ := Aside0.mk (blk_below (g := gb320) (o := .cells #[.slice none 0 0, .string (⟨#[]⟩ : ByteArray)] 24 (0, 0)) bk hb); have n3_ := Aside0.mk (below_step bwS hb); clear BK319; clear BK320; clear HB; have HO323 := n0_; have BK319 := n1_; have BK320 := n2_; have HB := n3_; clear n0_ n1_ n2_ n3_; clear hb ho18; have hnb19 := NB319_320.out; have hnc19 := NB320_319.out; have hcz20_0 : w17.cell? ⟨gb319, 0, none⟩ = some (.slice A2_0 l2_0.length c2_0) := (blk_cell BK319.out 0).trans rfl; have hcz20_1 : w17.cell? ⟨gb319, 1, none⟩ = some (.string a2_1) := (blk_cell BK319.out 1).trans rfl; have hfz20_0 := blk_frozen BK319.out 0; have hfz20_1 := blk_frozen BK319.out 1) | ((with_reducible refine gate_builtin (b := .append) (xs := #[.tmp 10, .tmp 12]) rfl ?_); at_builtin; refine Kd.R_append_rows k74 (w0 := w) w.heap.size rfl (.tmp 10) (.tmp 12) 22 74 (.agg #[(.string ⟨#[]⟩), (.string ⟨#[]⟩)]) 32 rfl Tryz.underlying22 info74 rfl (by decide) (by omega) v322 y321 l2_0 _ _ _ (fun _ => True) (fun _ => False) rfl rfl ?aO ?aR (fun _ _ h => h) (fun _ h => h.elim) ?aF ?aB ?aS ?aL ?_; (case aR => repeat (first | exact (Kd.C_below HR2_0.out HB.out) | (with_reducible refine Kd.C_alloc ?_ _) | (with_reducible refine Kd.C_drewN ?_ _) | (with_reducible refine Kd.C_drew ?_))); (case aB => exact bwS); (case aF => exact (fun _ _ => trivial)); (case aO => exact (by (with_reducible repeat (first | apply Kd.R_alloc | apply Kd.R_drewN | apply Kd.R_drew)); exact HO323.out)); (case aS => exact (below_size bwS)); (case aL => have := LMc5.out; omega); intro v325 w21 ho hb hg hat; rw [← Ny324.out] at ho; have n0_ := Aside0.mk (blk_grown (g := gb319) (o := .cells #[.slice A2_0 l2_0.length c2_0, .string a2_1] 24 (0, 0)) bk hg (Kd.R_ne HO323.out BK319.out (by decide))); have n1_ := Aside0.mk (blk_grown (g := gb320) (o := .cells #[.slice none 0 0, .string (⟨#[]⟩ : ByteArray)] 24 (0, 0)) bk hg (Kd.R_ne HO323.out BK320.out (by decide))); have n2_ := Aside0.mk (hb); have n3_ := Aside0.mk (ho); clear BK319; clear BK320; clear HB; clear HO323; have BK319 := n0_; have BK320 := n1_; have HB := n2_; have HO326 := n3_; clear n0_ n1_ n2_ n3_; clear ho hb hg hat) | ((with_reducible refine gate_callee (f := 38) rfl ?_); refine goesL_ (some 18) rfl rfl Tryz.func38 (by kernel_rfl) rfl #[.string a0, .string a1, .int .i64 4, .string a3] rfl am ?_; (with_reducible refine (bulletinref36_To.calls k a0 a1 4 a3 t327 _ A6.out).mono ?_); rintro e w22 ⟨rfl, hb⟩; refine ⟨_, rfl, ?_⟩; have n0_ := Aside0.mk (Kd.R_below (by (with_reducible repeat (first | apply Kd.R_alloc | apply Kd.R_drewN | apply Kd.R_drew)); exact HO326.out) hb); have n1_ := Aside0.mk (blk_below (g := gb319) (o := .cells #[.slice A2_0 l2_0.length c2_0, .string a2_1] 24 (0, 0)) bk hb); have n2_ := Aside0.mk (blk_below (g := gb320) (o := .cells #[.slice none 0 0, .string (⟨#[]⟩ : ByteArray)] 24 (0, 0)) bk hb); have n3_ := Aside0.mk (below_step bwS hb); clear HO326; clear BK319; clear BK320; clear HB; have HO326 := n0_; have BK319 := n1_; have BK320 := n2_; have HB := n3_; clear n0_ n1_ n2_ n3_; (try clear hb); (try clear hb2); (try clear hk); (try clear hi)) | ((with_reducible refine gate_builtin (b := .append) (xs := #[.tmp 14, .tmp 28]) rfl ?_); at_builtin; refine Kd.R_append k74 (w0 := w) w.heap.size rfl (.tmp 14) (.tmp 28) 22 74 (.agg #[(.string ⟨#[]⟩), (.string ⟨#[]⟩)]) 32 rfl Tryz.underlying22 info74 rfl (by decide) (by omega) v325 y324 (⟨(⟨#[76, 105, 115, 116, 45, 85, 110, 115, 117, 98, 115, 99, 114, 105, 98, 101]⟩ : ByteArray), ((((((⟨#[60, 109, 97, 105, 108, 116, 111, 58]⟩ : ByteArray) ++ t327) ++ (⟨#[62, 44, 32, 60, 104, 116, 116, 112, 115, 58, 47, 47]⟩ : ByteArray)) ++ a0) ++ (⟨#[47, 108, 101, 97, 118, 101, 47]⟩ : ByteArray)) ++ a3) ++ (⟨#[62]⟩ : ByteArray)⟩ : S74) [.string (⟨#[76, 105, 115, 116, 45, 85, 110, 115, 117, 98, 115, 99, 114, 105, 98, 101]⟩ : ByteArray), .string (((((((⟨#[60, 109, 97, 105, 108, 116, 111, 58]⟩ : ByteArray) ++ t327) ++ (⟨#[62, 44, 32, 60, 104, 116, 116, 112, 115, 58, 47, 47]⟩ : ByteArray)) ++ a0) ++ (⟨#[47, 108, 101, 97, 118, 101, 47]⟩ : ByteArray)) ++ a3) ++ (⟨#[62]⟩ : ByteArray))] (fun _ => True) (fun _ => False) rfl rfl ?aP (fun _ hk => hk.elim) ?aF ?aO ?aB ?aS ?aL ?_; (case aP => exact k74_mkM _ _ _ (⟨(⟨#[76, 105, 115, 116, 45, 85, 110, 115, 117, 98, 115, 99, 114, 105, 98, 101]⟩ : ByteArray), ((((((⟨#[60, 109, 97, 105, 108, 116, 111, 58]⟩ : ByteArray) ++ t327) ++ (⟨#[62, 44, 32, 60, 104, 116, 116, 112, 115, 58, 47, 47]⟩ : ByteArray)) ++ a0) ++ (⟨#[47, 108, 101, 97, 118, 101, 47]⟩ : ByteArray)) ++ a3) ++ (⟨#[62]⟩ : ByteArray)⟩ : S74)); (case aB => exact bwS); (case aF => exact (fun _ _ => trivial)); (case aO => exact (by (with_reducible repeat (first | apply Kd.R_alloc | apply Kd.R_drewN | apply Kd.R_drew)); exact HO326.out)); (case aS => exact (below_size bwS)); (case aL => have := LMc13.out; omega); intro v329 w23 ho hb hg hat; rw [← Ny328.out] at ho; have n0_ := Aside0.mk (blk_grown (g := gb319) (o := .cells #[.slice A2_0 l2_0.length c2_0, .string a2_1] 24 (0, 0)) bk hg (Kd.R_ne HO326.out BK319.out (by decide))); have n1_ := Aside0.mk (blk_grown (g := gb320) (o := .cells #[.slice none 0 0, .string (⟨#[]⟩ : ByteArray)] 24 (0, 0)) bk hg (Kd.R_ne HO326.out BK320.out (by decide))); have n2_ := Aside0.mk (hb); have n3_ := Aside0.mk (ho); clear BK319; clear BK320; clear HB; clear HO326; have BK319 := n0_; have BK320 := n1_; have HB := n2_; have HO330 := n3_; clear n0_ n1_ n2_ n3_; clear ho hb hg hat) | ((with_reducible refine gate_builtin (b := .append) (xs := #[.tmp 30, .tmp 32]) rfl ?_); at_builtin; refine Kd.R_append k74 (w0 := w) w.heap.size rfl (.tmp 30) (.tmp 32) 22 74 (.agg #[(.string ⟨#[]⟩), (.string ⟨#[]⟩)]) 32 rfl Tryz.underlying22 info74 rfl (by decide) (by omega) v329 y328 (⟨(⟨#[76, 105, 115, 116, 45, 85, 110, 115, 117, 98, 115, 99, 114, 105, 98, 101, 45, 80, 111, 115, 116]⟩ : ByteArray), (⟨#[76, 105, 115, 116, 45, 85, 110, 115, 117, 98, 115, 99, 114, 105, 98, 101, 61, 79, 110, 101, 45, 67, 108, 105, 99, 107]⟩ : ByteArray)⟩ : S74) [.string (⟨#[76, 105, 115, 116, 45, 85, 110, 115, 117, 98, 115, 99, 114, 105, 98, 101, 45, 80, 111, 115, 116]⟩ : ByteArray), .string (⟨#[76, 105, 115, 116, 45, 85, 110, 115, 117, 98, 115, 99, 114, 105, 98, 101, 61, 79, 110, 101, 45, 67, 108, 105, 99, 107]⟩ : ByteArray)] (fun _ => True) (fun _ => False) rfl rfl ?aP (fun _ hk => hk.elim) ?aF ?aO ?aB ?aS ?aL ?_; (case aP => exact k74_mkM _ _ _ (⟨(⟨#[76, 105, 115, 116, 45, 85, 110, 115, 117, 98, 115, 99, 114, 105, 98, 101, 45, 80, 111, 115, 116]⟩ : ByteArray), (⟨#[76, 105, 115, 116, 45, 85, 110, 115, 117, 98, 115, 99, 114, 105, 98, 101, 61, 79, 110, 101, 45, 67, 108, 105, 99, 107]⟩ : ByteArray)⟩ : S74)); (case aB => exact bwS); (case aF => exact (fun _ _ => trivial)); (case aO => exact (by (with_reducible repeat (first | apply Kd.R_alloc | apply Kd.R_drewN | apply Kd.R_drew)); exact HO330.out)); (case aS => exact (below_size bwS)); (case aL => have := LMc14.out; omega); intro v332 w24 ho hb hg hat; rw [← Ny331.out] at ho; have n0_ := Aside0.mk (blk_grown (g := gb319) (o := .cells #[.slice A2_0 l2_0.length c2_0, .string a2_1] 24 (0, 0)) bk hg (Kd.R_ne HO330.out BK319.out (by decide))); have n1_ := Aside0.mk (blk_grown (g := gb320) (o := .cells #[.slice none 0 0, .string (⟨#[]⟩ : ByteArray)] 24 (0, 0)) bk hg (Kd.R_ne HO330.out BK320.out (by decide))); have n2_ := Aside0.mk (hb); have n3_ := Aside0.mk (ho); clear BK319; clear BK320; clear HB; clear HO330; have BK319 := n0_; have BK320 := n1_; have HB := n2_; have HO333 := n3_; clear n0_ n1_ n2_ n3_; clear ho hb hg hat; have hcz25_0 : w24.cell? ⟨gb319, 0, none⟩ = some (.slice A2_0 l2_0.length c2_0) := (blk_cell BK319.out 0).trans rfl; have hcz25_1 : w24.cell? ⟨gb319, 1, none⟩ = some (.string a2_1) := (blk_cell BK319.out 1).trans rfl; have hfz25_0 := blk_frozen BK319.out 0; have hfz25_1 := blk_frozen BK319.out 1; obtain ⟨Ao26, co26, eo26⟩ := Kd.R_slice HO333.out; subst eo26; have hcz27_0 : w24.cell? ⟨gb320, 0, none⟩ = some (.slice none 0 0) := (blk_cell BK320.out 0).trans rfl; have hcz27_1 : w24.cell? ⟨gb320, 1, none⟩ = some (.string (⟨#[]⟩ : ByteArray)) := (blk_cell BK320.out 1).trans rfl; have hfz27_0 := blk_frozen BK320.out 0; have hfz27_1 := blk_frozen BK320.out 1))
          refine bodyPost_ret (results_cell_row rfl _ _ gb320 24 #[.slice Ao26 y331.length co26, .string a2_1] (0, 0) _ rfl (by (with_reducible repeat (first | refine blk_drewN ?_ _ | refine blk_drew ?_ | refine blk_alloc ?_ _)); refine blk_put (cs := #[.slice Ao26 y331.length co26, .string (⟨#[]⟩ : ByteArray)]) ?_ 1 _ rfl; (with_reducible repeat (first | refine blk_drewN ?_ _ | refine blk_drew ?_ | refine blk_alloc ?_ _)); refine blk_put (cs := #[.slice none 0 0, .string (⟨#[]⟩ : ByteArray)]) ?_ 0 _ rfl; (with_reducible repeat (first | refine blk_drewN ?_ _ | refine blk_drew ?_ | refine blk_alloc ?_ _)); exact BK320.out) Tryz.underlying24 rfl (by kernel_rfl)) rfl ?_
          exact ⟨_, by first | rfl | (simp [errW_none, errW_some] <;> rfl) | (simp [*, errW_none, errW_some] <;> rfl), by (with_reducible repeat (first | apply Kd.R_alloc | apply Kd.R_drewN | apply Kd.R_drew)); exact Kd.R_mono (Kd.R_far (p := ⟨gb320, 1, none⟩) (Kd.R_far (p := ⟨gb320, 0, none⟩) (Kd.R_types HO333.out BK320.out (by decide)) (fun _ hk => hk.2) (.slice Ao26 y331.length co26)) (fun _ hk => hk.2) (.string a2_1)) (fun _ hk => trivial), bwS⟩
         ·rw [if_neg c14] at H
          exact absurd H (by simp)
        ·rw [if_neg c13] at H
         exact absurd H (by simp)
       ·rw [if_neg c12] at H
        exact absurd H (by simp)
      ·rw [if_neg c11] at H
       exact absurd H (by simp)
     ·rw [if_neg c10] at H
      exact absurd H (by simp)
    ·rw [if_neg c9] at H
     exact absurd H (by simp)
   ·rw [if_neg c8] at H
    exact absurd H (by simp)
  ·rw [if_neg c7] at H
   exact absurd H (by simp)
 ·rw [if_neg c5] at H
  exact absurd H (by simp)

end Go.Proofs.YtihabmcaplnbcaaGreatDoor.Fn
namespace Go.Proofs.YtihabmcaplnbcaaGreatDoor.Fn
open Go.RowKit Go.Proofs.YtihabmcaplnbcaaGreatDoorW.PrintWords Go.Proofs.YtihabmcaplnbcaaGreatDoorW.PrintLast Go.Proofs.YtihabmcaplnbcaaGreatDoorW.PrintMore
attribute [local go_sem] max2_int min2_int max_two min_two max_three min_three max_four min_four
set_option linter.unusedVariables false
set_option linter.unusedSimpArgs false

/-! ### verp_extended: function 119 -/
def verp_extended.f (a0 : Int) : Option (Bool) := if a0 = 4 then (some true) else (some (a0 == 5))
set_option maxHeartbeats 8000000 in
set_option maxRecDepth 100000 in
theorem verp_extended.calls (a0 : Int) (r : Bool) (w : World) (h : verp_extended.f a0 = some r) :
  Calls Tryz.prog 119 #[.int .i64 a0] w fun e w' => e = .returned (.bool r) ∧ Drawn0 w w' := by
 have H : (if a0 = 4 then (some true) else (some (a0 == 5))) = some r := h
 clear h
 by_cases c2 : a0 = 4
 ·rw [if_pos c2] at H
  have c2b0 : (a0 == 4) = true := beq_iff_eq.mpr c2
  have c2b1 : (a0 != 4) = false := bne_eq_false_iff_eq.mpr c2
  clear c2
  obtain rfl := Option.some.inj H
  go_enter Tryz.func119, Tryz.ntmps119
  go_wp2
  go_ret
  exact ⟨by first | rfl | (simp; done) | (simp [*]; done) | (simp [nil_ne]; done) | (simp [u8_w, i64w_]; done) | (simp [size_lit]; done) | (simp; unfold wrap64; omega), by repeat (first | exact Drawn0.refl _ | apply Drawn0.step)⟩
 ·rw [if_neg c2] at H
  have c2b0 : (a0 == 4) = false := beq_eq_false_iff_ne.mpr c2
  have c2b1 : (a0 != 4) = true := bne_iff_ne.mpr c2
  obtain rfl := Option.some.inj H
  go_enter Tryz.func119, Tryz.ntmps119
  go_wp2
  go_ret
  exact ⟨by first | rfl | (simp; done) | (simp [*]; done) | (simp [nil_ne]; done) | (simp [u8_w, i64w_]; done) | (simp [size_lit]; done) | (simp; unfold wrap64; omega), by repeat (first | exact Drawn0.refl _ | apply Drawn0.step)⟩

end Go.Proofs.YtihabmcaplnbcaaGreatDoor.Fn
namespace Go.Proofs.YtihabmcaplnbcaaGreatDoor.Fn
open Go.RowKit Go.Proofs.YtihabmcaplnbcaaGreatDoorW.PrintWords Go.Proofs.YtihabmcaplnbcaaGreatDoorW.PrintLast Go.Proofs.YtihabmcaplnbcaaGreatDoorW.PrintMore
attribute [local go_sem] max2_int min2_int max_two min_two max_three min_three max_four min_four
set_option linter.unusedVariables false
set_option linter.unusedSimpArgs false

/-! ### verp_suffix: function 120 -/
def verp_suffix.f (a0 : Int) : Option (ByteArray) := if a0 = 2 then (some (⟨#[45, 114, 101, 113, 117, 101, 115, 116]⟩ : ByteArray)) else (if a0 = 3 then (some (⟨#[45, 111, 119, 110, 101, 114]⟩ : ByteArray)) else (if a0 = 4 then (some (⟨#[45, 99, 111, 110, 102, 105, 114, 109]⟩ : ByteArray)) else (if a0 = 5 then (some (⟨#[45, 98, 111, 117, 110, 99, 101, 115]⟩ : ByteArray)) else (some (⟨#[]⟩ : ByteArray)))))
set_option maxHeartbeats 8000000 in
set_option maxRecDepth 100000 in
theorem verp_suffix.calls (a0 : Int) (r : ByteArray) (w : World) (h : verp_suffix.f a0 = some r) :
  Calls Tryz.prog 120 #[.int .i64 a0] w fun e w' => e = .returned (.string r) ∧ Drawn0 w w' := by
 have H : (if a0 = 2 then (some (⟨#[45, 114, 101, 113, 117, 101, 115, 116]⟩ : ByteArray)) else (if a0 = 3 then (some (⟨#[45, 111, 119, 110, 101, 114]⟩ : ByteArray)) else (if a0 = 4 then (some (⟨#[45, 99, 111, 110, 102, 105, 114, 109]⟩ : ByteArray)) else (if a0 = 5 then (some (⟨#[45, 98, 111, 117, 110, 99, 101, 115]⟩ : ByteArray)) else (some (⟨#[]⟩ : ByteArray)))))) = some r := h
 clear h
 by_cases c2 : a0 = 2
 ·rw [if_pos c2] at H
  have c2b0 : (a0 == 2) = true := beq_iff_eq.mpr c2
  have c2b1 : (a0 != 2) = false := bne_eq_false_iff_eq.mpr c2
  clear c2
  obtain rfl := Option.some.inj H
  go_enter Tryz.func120, Tryz.ntmps120
  go_wp2
  go_ret
  exact ⟨by first | rfl | (simp; done) | (simp [*]; done) | (simp [nil_ne]; done) | (simp [u8_w, i64w_]; done) | (simp [size_lit]; done) | (simp; unfold wrap64; omega), by repeat (first | exact Drawn0.refl _ | apply Drawn0.step)⟩
 ·rw [if_neg c2] at H
  have c2b0 : (a0 == 2) = false := beq_eq_false_iff_ne.mpr c2
  have c2b1 : (a0 != 2) = true := bne_iff_ne.mpr c2
  by_cases c3 : a0 = 3
  ·rw [if_pos c3] at H
   have c3b0 : (a0 == 3) = true := beq_iff_eq.mpr c3
   have c3b1 : (a0 != 3) = false := bne_eq_false_iff_eq.mpr c3
   clear c3
   obtain rfl := Option.some.inj H
   go_enter Tryz.func120, Tryz.ntmps120
   go_wp2
   go_ret
   exact ⟨by first | rfl | (simp; done) | (simp [*]; done) | (simp [nil_ne]; done) | (simp [u8_w, i64w_]; done) | (simp [size_lit]; done) | (simp; unfold wrap64; omega), by repeat (first | exact Drawn0.refl _ | apply Drawn0.step)⟩
  ·rw [if_neg c3] at H
   have c3b0 : (a0 == 3) = false := beq_eq_false_iff_ne.mpr c3
   have c3b1 : (a0 != 3) = true := bne_iff_ne.mpr c3
   by_cases c4 : a0 = 4
   ·rw [if_pos c4] at H
    have c4b0 : (a0 == 4) = true := beq_iff_eq.mpr c4
    have c4b1 : (a0 != 4) = false := bne_eq_false_iff_eq.mpr c4
    clear c4
    obtain rfl := Option.some.inj H
    go_enter Tryz.func120, Tryz.ntmps120
    go_wp2
    go_ret
    exact ⟨by first | rfl | (simp; done) | (simp [*]; done) | (simp [nil_ne]; done) | (simp [u8_w, i64w_]; done) | (simp [size_lit]; done) | (simp; unfold wrap64; omega), by repeat (first | exact Drawn0.refl _ | apply Drawn0.step)⟩
   ·rw [if_neg c4] at H
    have c4b0 : (a0 == 4) = false := beq_eq_false_iff_ne.mpr c4
    have c4b1 : (a0 != 4) = true := bne_iff_ne.mpr c4
    by_cases c5 : a0 = 5
    ·rw [if_pos c5] at H
     have c5b0 : (a0 == 5) = true := beq_iff_eq.mpr c5
     have c5b1 : (a0 != 5) = false := bne_eq_false_iff_eq.mpr c5
     clear c5
     obtain rfl := Option.some.inj H
     go_enter Tryz.func120, Tryz.ntmps120
     go_wp2
     go_ret
     exact ⟨by first | rfl | (simp; done) | (simp [*]; done) | (simp [nil_ne]; done) | (simp [u8_w, i64w_]; done) | (simp [size_lit]; done) | (simp; unfold wrap64; omega), by repeat (first | exact Drawn0.refl _ | apply Drawn0.step)⟩
    ·rw [if_neg c5] at H
     have c5b0 : (a0 == 5) = false := beq_eq_false_iff_ne.mpr c5
     have c5b1 : (a0 != 5) = true := bne_iff_ne.mpr c5
     obtain rfl := Option.some.inj H
     go_enter Tryz.func120, Tryz.ntmps120
     go_wp2
     go_ret
     exact ⟨by first | rfl | (simp; done) | (simp [*]; done) | (simp [nil_ne]; done) | (simp [u8_w, i64w_]; done) | (simp [size_lit]; done) | (simp; unfold wrap64; omega), by repeat (first | exact Drawn0.refl _ | apply Drawn0.step)⟩

end Go.Proofs.YtihabmcaplnbcaaGreatDoor.Fn
namespace Go.Proofs.YtihabmcaplnbcaaGreatDoor.Fn
open Go.RowKit Go.Proofs.YtihabmcaplnbcaaGreatDoorW.PrintWords Go.Proofs.YtihabmcaplnbcaaGreatDoorW.PrintLast Go.Proofs.YtihabmcaplnbcaaGreatDoorW.PrintMore
attribute [local go_sem] max2_int min2_int max_two min_two max_three min_three max_four min_four
set_option linter.unusedVariables false
set_option linter.unusedSimpArgs false

/-! ### verp_Local: function 72 -/
def verp_Local.j0 : Nat → ByteArray → Int → ByteArray → Bool → Option (ByteArray)
 | 0, _, _, _, _ => none
 | k + 1, x0, x1, x2, x7 => if x7 = true then (some (⟨#[]⟩ : ByteArray)) else ((verp_extended.f x1).bind fun t259 => (if t259 = true then ((verp_suffix.f x1).bind fun t260 => (if x0.size + t260.size ≤ 9223372036854775807 then (if (x0 ++ t260).size + 1 ≤ 9223372036854775807 then (if ((x0 ++ t260) ++ (⟨#[43]⟩ : ByteArray)).size + x2.size ≤ 9223372036854775807 then (some (((x0 ++ t260) ++ (⟨#[43]⟩ : ByteArray)) ++ x2)) else (none)) else (none)) else (none))) else ((verp_suffix.f x1).bind fun t261 => (if x0.size + t261.size ≤ 9223372036854775807 then (some (x0 ++ t261)) else (none)))))
def verp_Local.f (k : Nat) (a0 : ByteArray) (a1 : Int) (a2 : ByteArray) : Option (ByteArray) := if a1 < 1 then (verp_Local.j0 k a0 a1 a2 true) else (verp_Local.j0 k a0 a1 a2 (decide (a1 > 5)))
set_option maxHeartbeats 8000000 in
set_option maxRecDepth 100000 in
theorem verp_Local.calls (k : Nat) (a0 : ByteArray) (a1 : Int) (a2 : ByteArray) (r : ByteArray) (w : World) (h : verp_Local.f k a0 a1 a2 = some r) :
  Calls Tryz.prog 72 #[.string a0, .int .i64 a1, .string a2] w fun e w' => e = .returned (.string r) ∧ Drawn0 w w' := by
 have H : (if a1 < 1 then (verp_Local.j0 k a0 a1 a2 true) else (verp_Local.j0 k a0 a1 a2 (decide (a1 > 5)))) = some r := h
 clear h
 have HC4 := Aside0.mk H
 clear H
 go_enter Tryz.func72, Tryz.ntmps72
 go_upto_region 1 with (fail)
 go_cut [7] (fun v7 wc => ∃ (kq : Nat) (x7_3 : Bool), v7 = .bool x7_3 ∧ Aside0 (verp_Local.j0 kq a0 a1 a2 x7_3 = some r) ∧ Aside0 (kq ≤ k) ∧ Drawn0 w wc)
 case first =>
  have H := HC4.out
  clear HC4
  by_cases c5 : a1 < 1
  ·rw [if_pos c5] at H
   have c5b0 : decide (a1 < 1) = true := decide_eq_true c5
   clear c5
   (first | rw [c5b0] | (simp only [i64_w, i32_w]; rw [c5b0]) | skip)
   have H' := Aside0.mk H
   clear H
   go_wp2
   go_meet
   case rel => exact ⟨_, (true), cl, H', ⟨by first | omega | exact Nat.le_refl _⟩, by repeat (first | exact Drawn0.refl _ | apply Drawn0.step)⟩
  ·rw [if_neg c5] at H
   have c5b0 : decide (a1 < 1) = false := decide_eq_false c5
   clear c5
   (first | rw [c5b0] | (simp only [i64_w, i32_w]; rw [c5b0]) | skip)
   have H' := Aside0.mk H
   clear H
   go_wp2
   go_meet
   case rel => exact ⟨_, (decide (a1 > 5)), cl, H', ⟨by first | omega | exact Nat.le_refl _⟩, by repeat (first | exact Drawn0.refl _ | apply Drawn0.step)⟩
 case rest =>
  clear HC4
  try clear p2
  try clear c5
  try clear c5b0
  obtain ⟨kq, x7_3, rfl, HA, HJ3, ⟨mc3, rfl⟩⟩ := hcut
  cases kq with
  | zero => exact absurd HA.out (by simp [verp_Local.j0])
  | succ kj3 =>
   have H := HA.out
   clear HA
   simp only [verp_Local.j0] at H
   by_cases c6 : x7_3 = true
   ·subst c6
    have H1 : (some (⟨#[]⟩ : ByteArray)) = some r := by rw [if_pos rfl] at H; exact H
    clear H
    have H := H1
    clear H1
    obtain rfl := Option.some.inj H
    go_wp2
    go_ret
    exact ⟨by first | rfl | (simp; done) | (simp [*]; done) | (simp [nil_ne]; done) | (simp [u8_w, i64w_]; done) | (simp [size_lit]; done) | (simp; unfold wrap64; omega), by repeat (first | exact Drawn0.refl _ | apply Drawn0.step)⟩
   ·replace c6 := Bool.eq_false_iff.mpr c6
    subst c6
    have H1 : ((verp_extended.f a1).bind fun t259 => (if t259 = true then ((verp_suffix.f a1).bind fun t260 => (if a0.size + t260.size ≤ 9223372036854775807 then (if (a0 ++ t260).size + 1 ≤ 9223372036854775807 then (if ((a0 ++ t260) ++ (⟨#[43]⟩ : ByteArray)).size + a2.size ≤ 9223372036854775807 then (some (((a0 ++ t260) ++ (⟨#[43]⟩ : ByteArray)) ++ a2)) else (none)) else (none)) else (none))) else ((verp_suffix.f a1).bind fun t261 => (if a0.size + t261.size ≤ 9223372036854775807 then (some (a0 ++ t261)) else (none))))) = some r := by rw [if_neg (show ¬ (false = true) by decide)] at H; exact H
    clear H
    have H := H1
    clear H1
    replace H := Option.bind_eq_some_iff.mp H
    obtain ⟨t259, A70, H⟩ := H
    replace H : (if t259 = true then ((verp_suffix.f a1).bind fun t260 => (if a0.size + t260.size ≤ 9223372036854775807 then (if (a0 ++ t260).size + 1 ≤ 9223372036854775807 then (if ((a0 ++ t260) ++ (⟨#[43]⟩ : ByteArray)).size + a2.size ≤ 9223372036854775807 then (some (((a0 ++ t260) ++ (⟨#[43]⟩ : ByteArray)) ++ a2)) else (none)) else (none)) else (none))) else ((verp_suffix.f a1).bind fun t261 => (if a0.size + t261.size ≤ 9223372036854775807 then (some (a0 ++ t261)) else (none)))) = some r := H
    have A7 := Aside0.mk A70
    clear A70
    by_cases c8 : t259 = true
    ·subst c8
     have H1 : ((verp_suffix.f a1).bind fun t260 => (if a0.size + t260.size ≤ 9223372036854775807 then (if (a0 ++ t260).size + 1 ≤ 9223372036854775807 then (if ((a0 ++ t260) ++ (⟨#[43]⟩ : ByteArray)).size + a2.size ≤ 9223372036854775807 then (some (((a0 ++ t260) ++ (⟨#[43]⟩ : ByteArray)) ++ a2)) else (none)) else (none)) else (none))) = some r := by rw [if_pos rfl] at H; exact H
     clear H
     have H := H1
     clear H1
     replace H := Option.bind_eq_some_iff.mp H
     obtain ⟨t260, A90, H⟩ := H
     replace H : (if a0.size + t260.size ≤ 9223372036854775807 then (if (a0 ++ t260).size + 1 ≤ 9223372036854775807 then (if ((a0 ++ t260) ++ (⟨#[43]⟩ : ByteArray)).size + a2.size ≤ 9223372036854775807 then (some (((a0 ++ t260) ++ (⟨#[43]⟩ : ByteArray)) ++ a2)) else (none)) else (none)) else (none)) = some r := H
     have A9 := Aside0.mk A90
     clear A90
     by_cases c10 : a0.size + t260.size ≤ 9223372036854775807
     ·rw [if_pos c10] at H
      have c10b0 := eq_true c10
      have c10b1 : decide (a0.size + t260.size ≤ 9223372036854775807) = true := decide_eq_true c10
      try have c10b2 : (9223372036854775807 < a0.size + t260.size) = False := eq_false (Nat.not_lt.2 c10)
      by_cases c11 : (a0 ++ t260).size + 1 ≤ 9223372036854775807
      ·rw [if_pos c11] at H
       have c11b0 := eq_true c11
       have c11b1 : decide ((a0 ++ t260).size + 1 ≤ 9223372036854775807) = true := decide_eq_true c11
       try have c11b2 : (9223372036854775807 < (a0 ++ t260).size + 1) = False := eq_false (Nat.not_lt.2 c11)
       try (have c11b3 := c11; simp only [ByteArray.size_append, size_lit, ByteArray.size_extract, List.size_toArray, List.length_cons, List.length_nil, Nat.zero_add, Nat.reduceAdd] at c11b3; have c11b4 := eq_false (Nat.not_lt.2 c11b3))
       by_cases c12 : ((a0 ++ t260) ++ (⟨#[43]⟩ : ByteArray)).size + a2.size ≤ 9223372036854775807
       ·rw [if_pos c12] at H
        have c12b0 := eq_true c12
        have c12b1 : decide (((a0 ++ t260) ++ (⟨#[43]⟩ : ByteArray)).size + a2.size ≤ 9223372036854775807) = true := decide_eq_true c12
        try have c12b2 : (9223372036854775807 < ((a0 ++ t260) ++ (⟨#[43]⟩ : ByteArray)).size + a2.size) = False := eq_false (Nat.not_lt.2 c12)
        try (have c12b3 := c12; simp only [ByteArray.size_append, size_lit, ByteArray.size_extract, List.size_toArray, List.length_cons, List.length_nil, Nat.zero_add, Nat.reduceAdd] at c12b3; have c12b4 := eq_false (Nat.not_lt.2 c12b3))
        obtain rfl := Option.some.inj H
        go_wp2_with (first | ((with_reducible refine gate_callee (f := 119) rfl ?_); refine goesL_ (some 16) rfl rfl Tryz.func119 (by kernel_rfl) rfl #[.int .i64 a1] rfl am ?_; (with_reducible refine (verp_extended.calls a1 true _ A7.out).mono ?_); rintro e w' ⟨rfl, ⟨nd, rfl⟩⟩; refine ⟨_, rfl, ?_⟩) | ((with_reducible refine gate_callee (f := 120) rfl ?_); refine goesL_ (some 19) rfl rfl Tryz.func120 (by kernel_rfl) rfl #[.int .i64 a1] rfl am ?_; (with_reducible refine (verp_suffix.calls a1 t260 _ A9.out).mono ?_); rintro e w' ⟨rfl, ⟨nd, rfl⟩⟩; refine ⟨_, rfl, ?_⟩))
        go_ret
        exact ⟨by first | rfl | (simp; done) | (simp [*]; done) | (simp [nil_ne]; done) | (simp [u8_w, i64w_]; done) | (simp [size_lit]; done) | (simp; unfold wrap64; omega), by repeat (first | exact Drawn0.refl _ | apply Drawn0.step)⟩
       ·rw [if_neg c12] at H
        exact absurd H (by simp)
      ·rw [if_neg c11] at H
       exact absurd H (by simp)
     ·rw [if_neg c10] at H
      exact absurd H (by simp)
    ·replace c8 := Bool.eq_false_iff.mpr c8
     subst c8
     have H1 : ((verp_suffix.f a1).bind fun t261 => (if a0.size + t261.size ≤ 9223372036854775807 then (some (a0 ++ t261)) else (none))) = some r := by rw [if_neg (show ¬ (false = true) by decide)] at H; exact H
     clear H
     have H := H1
     clear H1
     replace H := Option.bind_eq_some_iff.mp H
     obtain ⟨t261, A130, H⟩ := H
     replace H : (if a0.size + t261.size ≤ 9223372036854775807 then (some (a0 ++ t261)) else (none)) = some r := H
     have A13 := Aside0.mk A130
     clear A130
     by_cases c14 : a0.size + t261.size ≤ 9223372036854775807
     ·rw [if_pos c14] at H
      have c14b0 := eq_true c14
      have c14b1 : decide (a0.size + t261.size ≤ 9223372036854775807) = true := decide_eq_true c14
      try have c14b2 : (9223372036854775807 < a0.size + t261.size) = False := eq_false (Nat.not_lt.2 c14)
      obtain rfl := Option.some.inj H
      go_wp2_with (first | ((with_reducible refine gate_callee (f := 119) rfl ?_); refine goesL_ (some 16) rfl rfl Tryz.func119 (by kernel_rfl) rfl #[.int .i64 a1] rfl am ?_; (with_reducible refine (verp_extended.calls a1 false _ A7.out).mono ?_); rintro e w' ⟨rfl, ⟨nd, rfl⟩⟩; refine ⟨_, rfl, ?_⟩) | ((with_reducible refine gate_callee (f := 120) rfl ?_); refine goesL_ (some 26) rfl rfl Tryz.func120 (by kernel_rfl) rfl #[.int .i64 a1] rfl am ?_; (with_reducible refine (verp_suffix.calls a1 t261 _ A13.out).mono ?_); rintro e w' ⟨rfl, ⟨nd, rfl⟩⟩; refine ⟨_, rfl, ?_⟩))
      go_ret
      exact ⟨by first | rfl | (simp; done) | (simp [*]; done) | (simp [nil_ne]; done) | (simp [u8_w, i64w_]; done) | (simp [size_lit]; done) | (simp; unfold wrap64; omega), by repeat (first | exact Drawn0.refl _ | apply Drawn0.step)⟩
     ·rw [if_neg c14] at H
      exact absurd H (by simp)

end Go.Proofs.YtihabmcaplnbcaaGreatDoor.Fn
namespace Go.Proofs.YtihabmcaplnbcaaGreatDoor.Fn
open Go.RowKit Go.Proofs.YtihabmcaplnbcaaGreatDoorW.PrintWords Go.Proofs.YtihabmcaplnbcaaGreatDoorW.PrintLast Go.Proofs.YtihabmcaplnbcaaGreatDoorW.PrintMore
attribute [local go_sem] max2_int min2_int max_two min_two max_three min_three max_four min_four
set_option linter.unusedVariables false
set_option linter.unusedSimpArgs false

/-! ### dress_at: function 35 -/
def dress_at.f (k : Nat) (a0 : ByteArray) (a1 : ByteArray) (a2 : Int) (a3 : ByteArray) : Option (ByteArray × ByteArray) := (verp_Local.f k a1 a2 a3).bind fun t263 => (some (t263, a0))
set_option maxHeartbeats 8000000 in
set_option maxRecDepth 100000 in
theorem dress_at.calls (k : Nat) (a0 : ByteArray) (a1 : ByteArray) (a2 : Int) (a3 : ByteArray) (r1 : ByteArray) (r2 : ByteArray) (w : World) (h : dress_at.f k a0 a1 a2 a3 = some (r1, r2)) :
  Calls Tryz.prog 35 #[.string a0, .string a1, .int .i64 a2, .string a3] w fun e w' => e = .returned (.agg #[.string r1, .string r2]) ∧ Below w.heap.size w w' := by
 have hu38 := Tryz.underlying38
 have HB := Aside0.mk (Below.refl w.heap.size w)
 have H : ((verp_Local.f k a1 a2 a3).bind fun t263 => (some (t263, a0))) = some (r1, r2) := h
 clear h
 replace H := Option.bind_eq_some_iff.mp H
 obtain ⟨t263, A50, H⟩ := H
 replace H : (some (t263, a0)) = some (r1, r2) := H
 have A5 := Aside0.mk A50
 clear A50
 simp only [Option.some.injEq, Prod.mk.injEq] at H
 obtain ⟨rfl, rfl⟩ := H
 go_enter Tryz.func35, Tryz.ntmps35
 go_wp2_with (first | ((with_reducible refine gate_dst (N := 8) rfl ?_); refine box_event ?hg (N := 8) ?hd (cs := #[.string (⟨#[]⟩ : ByteArray), .string (⟨#[]⟩ : ByteArray)]) (t := 38) ?hr ?_; (case hd => rfl); (case hg => rfl); (case hr => first | (go_simp; done) | (go_simp; rfl)); intro gb262 hg w6 hbox hb; have n0_ := Aside0.mk (below_step bw hb); have n1_ := Aside0.mk (hbox); have n2_ := Aside0.mk ((by rw [hg]; exact (below_size bw) : w.heap.size ≤ gb262)); have n3_ := Aside0.mk ((by rw [hg]; exact (below_size bw) : w.heap.size ≤ gb262)); clear HB; have HB := n0_; have BK262 := n1_; have GW262 := n2_; have GE262 := n3_; clear n0_ n1_ n2_ n3_; clear hb hbox hg) | ((with_reducible refine gate_callee (f := 72) rfl ?_); refine goesL_ (some 12) rfl rfl Tryz.func72 (by kernel_rfl) rfl #[.string a1, .int .i64 a2, .string a3] rfl am ?_; (with_reducible refine (verp_Local.calls k a1 a2 a3 t263 _ A5.out).mono ?_); rintro e w' ⟨rfl, ⟨nd, rfl⟩⟩; refine ⟨_, rfl, ?_⟩; (try (rw [drewN_self w6]; generalize hq_ : World.drewN w6 _ = w6; have n0_ : Aside0 (w6.heap[gb262]? = some (.cells #[.string (⟨#[]⟩ : ByteArray), .string (⟨#[]⟩ : ByteArray)] 38 (0, 0))) := ⟨by rw [← hq_]; exact bk⟩; have n1_ : Aside0 (Below w.heap.size w w6) := ⟨by rw [← hq_]; exact bwS⟩; clear BK262 HB hq_; have BK262 := n0_; have HB := n1_; clear n0_ n1_)); have hcz7_0 : w6.cell? ⟨gb262, 0, none⟩ = some (.string (⟨#[]⟩ : ByteArray)) := (blk_cell BK262.out 0).trans rfl; have hcz7_1 : w6.cell? ⟨gb262, 1, none⟩ = some (.string (⟨#[]⟩ : ByteArray)) := (blk_cell BK262.out 1).trans rfl; have hfz7_0 := blk_frozen BK262.out 0; have hfz7_1 := blk_frozen BK262.out 1))
 refine bodyPost_ret (results_cell_row rfl _ _ gb262 38 #[.string t263, .string a0] (0, 0) _ rfl (by (with_reducible repeat (first | refine blk_drewN ?_ _ | refine blk_drew ?_ | refine blk_alloc ?_ _)); refine blk_put (cs := #[.string t263, .string (⟨#[]⟩ : ByteArray)]) ?_ 1 _ rfl; (with_reducible repeat (first | refine blk_drewN ?_ _ | refine blk_drew ?_ | refine blk_alloc ?_ _)); refine blk_put (cs := #[.string (⟨#[]⟩ : ByteArray), .string (⟨#[]⟩ : ByteArray)]) ?_ 0 _ rfl; (with_reducible repeat (first | refine blk_drewN ?_ _ | refine blk_drew ?_ | refine blk_alloc ?_ _)); exact BK262.out) Tryz.underlying38 rfl (by kernel_rfl)) rfl ?_
 exact ⟨by first | rfl | (simp [errW_none, errW_some] <;> rfl) | (simp [*, errW_none, errW_some] <;> rfl), bwS⟩

end Go.Proofs.YtihabmcaplnbcaaGreatDoor.Fn
namespace Go.Proofs.YtihabmcaplnbcaaGreatDoor.Fn
open Go.RowKit Go.Proofs.YtihabmcaplnbcaaGreatDoorW.PrintWords Go.Proofs.YtihabmcaplnbcaaGreatDoorW.PrintLast Go.Proofs.YtihabmcaplnbcaaGreatDoorW.PrintMore
attribute [local go_sem] max2_int min2_int max_two min_two max_three min_three max_four min_four
set_option linter.unusedVariables false
set_option linter.unusedSimpArgs false

/-! ### dress_field: function 36 -/
def dress_field.f (a0 : ByteArray) (a1 : ByteArray) : Option (ByteArray × ByteArray) := some (a0, a1)
set_option maxHeartbeats 8000000 in
set_option maxRecDepth 100000 in
theorem dress_field.calls (a0 : ByteArray) (a1 : ByteArray) (r1 : ByteArray) (r2 : ByteArray) (w : World) (h : dress_field.f a0 a1 = some (r1, r2)) :
  Calls Tryz.prog 36 #[.string a0, .string a1] w fun e w' => e = .returned (.agg #[.string r1, .string r2]) ∧ Below w.heap.size w w' := by
 have hu35 := Tryz.underlying35
 have HB := Aside0.mk (Below.refl w.heap.size w)
 have H : (some (a0, a1)) = some (r1, r2) := h
 clear h
 simp only [Option.some.injEq, Prod.mk.injEq] at H
 obtain ⟨rfl, rfl⟩ := H
 go_enter Tryz.func36, Tryz.ntmps36
 go_wp2_with (first | ((with_reducible refine gate_dst (N := 4) rfl ?_); refine box_event ?hg (N := 4) ?hd (cs := #[.string (⟨#[]⟩ : ByteArray), .string (⟨#[]⟩ : ByteArray)]) (t := 35) ?hr ?_; (case hd => rfl); (case hg => rfl); (case hr => first | (go_simp; done) | (go_simp; rfl)); intro gb264 hg w3 hbox hb; have n0_ := Aside0.mk (below_step bw hb); have n1_ := Aside0.mk (hbox); have n2_ := Aside0.mk ((by rw [hg]; exact (below_size bw) : w.heap.size ≤ gb264)); have n3_ := Aside0.mk ((by rw [hg]; exact (below_size bw) : w.heap.size ≤ gb264)); clear HB; have HB := n0_; have BK264 := n1_; have GW264 := n2_; have GE264 := n3_; clear n0_ n1_ n2_ n3_; clear hb hbox hg; have hcz4_0 : w3.cell? ⟨gb264, 0, none⟩ = some (.string (⟨#[]⟩ : ByteArray)) := (blk_cell BK264.out 0).trans rfl; have hcz4_1 : w3.cell? ⟨gb264, 1, none⟩ = some (.string (⟨#[]⟩ : ByteArray)) := (blk_cell BK264.out 1).trans rfl; have hfz4_0 := blk_frozen BK264.out 0; have hfz4_1 := blk_frozen BK264.out 1))
 refine bodyPost_ret (results_cell_row rfl _ _ gb264 35 #[.string a0, .string a1] (0, 0) _ rfl (by (with_reducible repeat (first | refine blk_drewN ?_ _ | refine blk_drew ?_ | refine blk_alloc ?_ _)); refine blk_put (cs := #[.string a0, .string (⟨#[]⟩ : ByteArray)]) ?_ 1 _ rfl; (with_reducible repeat (first | refine blk_drewN ?_ _ | refine blk_drew ?_ | refine blk_alloc ?_ _)); refine blk_put (cs := #[.string (⟨#[]⟩ : ByteArray), .string (⟨#[]⟩ : ByteArray)]) ?_ 0 _ rfl; (with_reducible repeat (first | refine blk_drewN ?_ _ | refine blk_drew ?_ | refine blk_alloc ?_ _)); exact BK264.out) Tryz.underlying35 rfl (by kernel_rfl)) rfl ?_
 exact ⟨by first | rfl | (simp [errW_none, errW_some] <;> rfl) | (simp [*, errW_none, errW_some] <;> rfl), bwS⟩

end Go.Proofs.YtihabmcaplnbcaaGreatDoor.Fn
namespace Go.Proofs.YtihabmcaplnbcaaGreatDoor.Fn
open Go.RowKit Go.Proofs.YtihabmcaplnbcaaGreatDoorW.PrintWords Go.Proofs.YtihabmcaplnbcaaGreatDoorW.PrintLast Go.Proofs.YtihabmcaplnbcaaGreatDoorW.PrintMore
attribute [local go_sem] max2_int min2_int max_two min_two max_three min_three max_four min_four
set_option linter.unusedVariables false
set_option linter.unusedSimpArgs false

/-! ### dress_mailto: function 34 -/
def dress_mailto.f (k : Nat) (a0_0 : ByteArray) (a0_1 : ByteArray) (a1 : ByteArray) : Option (ByteArray) := (addr_Addr_Text.f k a0_0 a0_1).bind fun t258 => (if 8 + t258.size ≤ 9223372036854775807 then (if a1.toList = ([] : List UInt8) then (if ((⟨#[60, 109, 97, 105, 108, 116, 111, 58]⟩ : ByteArray) ++ t258).size + 1 ≤ 9223372036854775807 then (some (((⟨#[60, 109, 97, 105, 108, 116, 111, 58]⟩ : ByteArray) ++ t258) ++ (⟨#[62]⟩ : ByteArray))) else (none)) else (if 9 + a1.size ≤ 9223372036854775807 then (if ((⟨#[60, 109, 97, 105, 108, 116, 111, 58]⟩ : ByteArray) ++ t258).size + ((⟨#[63, 115, 117, 98, 106, 101, 99, 116, 61]⟩ : ByteArray) ++ a1).size ≤ 9223372036854775807 then (if (((⟨#[60, 109, 97, 105, 108, 116, 111, 58]⟩ : ByteArray) ++ t258) ++ ((⟨#[63, 115, 117, 98, 106, 101, 99, 116, 61]⟩ : ByteArray) ++ a1)).size + 1 ≤ 9223372036854775807 then (some ((((⟨#[60, 109, 97, 105, 108, 116, 111, 58]⟩ : ByteArray) ++ t258) ++ ((⟨#[63, 115, 117, 98, 106, 101, 99, 116, 61]⟩ : ByteArray) ++ a1)) ++ (⟨#[62]⟩ : ByteArray))) else (none)) else (none)) else (none))) else (none))
set_option maxHeartbeats 8000000 in
set_option maxRecDepth 100000 in
theorem dress_mailto.calls (k : Nat) (a0_0 : ByteArray) (a0_1 : ByteArray) (a1 : ByteArray) (r : ByteArray) (w : World) (h : dress_mailto.f k a0_0 a0_1 a1 = some r) :
  Calls Tryz.prog 34 #[.agg #[.string a0_0, .string a0_1], .string a1] w fun e w' => e = .returned (.string r) ∧ Below w.heap.size w w' := by
 have hu38 := Tryz.underlying38
 have HB := Aside0.mk (Below.refl w.heap.size w)
 have H : ((addr_Addr_Text.f k a0_0 a0_1).bind fun t258 => (if 8 + t258.size ≤ 9223372036854775807 then (if a1.toList = ([] : List UInt8) then (if ((⟨#[60, 109, 97, 105, 108, 116, 111, 58]⟩ : ByteArray) ++ t258).size + 1 ≤ 9223372036854775807 then (some (((⟨#[60, 109, 97, 105, 108, 116, 111, 58]⟩ : ByteArray) ++ t258) ++ (⟨#[62]⟩ : ByteArray))) else (none)) else (if 9 + a1.size ≤ 9223372036854775807 then (if ((⟨#[60, 109, 97, 105, 108, 116, 111, 58]⟩ : ByteArray) ++ t258).size + ((⟨#[63, 115, 117, 98, 106, 101, 99, 116, 61]⟩ : ByteArray) ++ a1).size ≤ 9223372036854775807 then (if (((⟨#[60, 109, 97, 105, 108, 116, 111, 58]⟩ : ByteArray) ++ t258) ++ ((⟨#[63, 115, 117, 98, 106, 101, 99, 116, 61]⟩ : ByteArray) ++ a1)).size + 1 ≤ 9223372036854775807 then (some ((((⟨#[60, 109, 97, 105, 108, 116, 111, 58]⟩ : ByteArray) ++ t258) ++ ((⟨#[63, 115, 117, 98, 106, 101, 99, 116, 61]⟩ : ByteArray) ++ a1)) ++ (⟨#[62]⟩ : ByteArray))) else (none)) else (none)) else (none))) else (none))) = some r := h
 clear h
 replace H := Option.bind_eq_some_iff.mp H
 obtain ⟨t258, A30, H⟩ := H
 replace H : (if 8 + t258.size ≤ 9223372036854775807 then (if a1.toList = ([] : List UInt8) then (if ((⟨#[60, 109, 97, 105, 108, 116, 111, 58]⟩ : ByteArray) ++ t258).size + 1 ≤ 9223372036854775807 then (some (((⟨#[60, 109, 97, 105, 108, 116, 111, 58]⟩ : ByteArray) ++ t258) ++ (⟨#[62]⟩ : ByteArray))) else (none)) else (if 9 + a1.size ≤ 9223372036854775807 then (if ((⟨#[60, 109, 97, 105, 108, 116, 111, 58]⟩ : ByteArray) ++ t258).size + ((⟨#[63, 115, 117, 98, 106, 101, 99, 116, 61]⟩ : ByteArray) ++ a1).size ≤ 9223372036854775807 then (if (((⟨#[60, 109, 97, 105, 108, 116, 111, 58]⟩ : ByteArray) ++ t258) ++ ((⟨#[63, 115, 117, 98, 106, 101, 99, 116, 61]⟩ : ByteArray) ++ a1)).size + 1 ≤ 9223372036854775807 then (some ((((⟨#[60, 109, 97, 105, 108, 116, 111, 58]⟩ : ByteArray) ++ t258) ++ ((⟨#[63, 115, 117, 98, 106, 101, 99, 116, 61]⟩ : ByteArray) ++ a1)) ++ (⟨#[62]⟩ : ByteArray))) else (none)) else (none)) else (none))) else (none)) = some r := H
 have A3 := Aside0.mk A30
 clear A30
 by_cases c4 : 8 + t258.size ≤ 9223372036854775807
 ·rw [if_pos c4] at H
  have c4b0 := eq_true c4
  have c4b1 : decide (8 + t258.size ≤ 9223372036854775807) = true := decide_eq_true c4
  try have c4b2 : (9223372036854775807 < 8 + t258.size) = False := eq_false (Nat.not_lt.2 c4)
  by_cases c5 : a1.toList = ([] : List UInt8)
  ·rw [if_pos c5] at H
   have c5b0 : (a1.toList == ([] : List UInt8)) = true := beq_iff_eq.mpr c5
   have c5b1 : (a1.toList != ([] : List UInt8)) = false := bne_eq_false_iff_eq.mpr c5
   clear c5
   by_cases c6 : ((⟨#[60, 109, 97, 105, 108, 116, 111, 58]⟩ : ByteArray) ++ t258).size + 1 ≤ 9223372036854775807
   ·rw [if_pos c6] at H
    have c6b0 := eq_true c6
    have c6b1 : decide (((⟨#[60, 109, 97, 105, 108, 116, 111, 58]⟩ : ByteArray) ++ t258).size + 1 ≤ 9223372036854775807) = true := decide_eq_true c6
    try have c6b2 : (9223372036854775807 < ((⟨#[60, 109, 97, 105, 108, 116, 111, 58]⟩ : ByteArray) ++ t258).size + 1) = False := eq_false (Nat.not_lt.2 c6)
    try (have c6b3 := c6; simp only [ByteArray.size_append, size_lit, ByteArray.size_extract, List.size_toArray, List.length_cons, List.length_nil, Nat.zero_add, Nat.reduceAdd] at c6b3; have c6b4 := eq_false (Nat.not_lt.2 c6b3))
    obtain rfl := Option.some.inj H
    go_enter Tryz.func34, Tryz.ntmps34
    go_wp2_with (first | ((with_reducible refine gate_dst (N := 2) rfl ?_); refine box_event ?hg (N := 2) ?hd (cs := #[.string a0_0, .string a0_1]) (t := 38) ?hr ?_; (case hd => rfl); (case hg => rfl); (case hr => first | (go_simp; done) | (go_simp; rfl)); intro gb257 hg w7 hbox hb; have n0_ := Aside0.mk (below_step bw hb); have n1_ := Aside0.mk (hbox); have n2_ := Aside0.mk ((by rw [hg]; exact (below_size bw) : w.heap.size ≤ gb257)); have n3_ := Aside0.mk ((by rw [hg]; exact (below_size bw) : w.heap.size ≤ gb257)); clear HB; have HB := n0_; have BK257 := n1_; have GW257 := n2_; have GE257 := n3_; clear n0_ n1_ n2_ n3_; clear hb hbox hg; have hcz8_0 : w7.cell? ⟨gb257, 0, none⟩ = some (.string a0_0) := (blk_cell BK257.out 0).trans rfl; have hcz8_1 : w7.cell? ⟨gb257, 1, none⟩ = some (.string a0_1) := (blk_cell BK257.out 1).trans rfl; have hfz8_0 := blk_frozen BK257.out 0; have hfz8_1 := blk_frozen BK257.out 1) | ((with_reducible refine gate_callee (f := 71) rfl ?_); refine goesL_ (some 7) rfl rfl Tryz.func71 (by kernel_rfl) rfl #[.agg #[.string a0_0, .string a0_1]] rfl am ?_; (with_reducible refine (addr_Addr_Text.calls k a0_0 a0_1 t258 _ A3.out).mono ?_); rintro e w9 ⟨rfl, hb⟩; refine ⟨_, rfl, ?_⟩; have n0_ := Aside0.mk (blk_below (g := gb257) (o := .cells #[.string a0_0, .string a0_1] 38 (0, 0)) bk hb); have n1_ := Aside0.mk (below_step bwS hb); clear BK257; clear HB; have BK257 := n0_; have HB := n1_; clear n0_ n1_; (try clear hb); (try clear hb2); (try clear hk); (try clear hi)))
    go_ret
    exact ⟨by first | rfl | (simp [errW_none, errW_some] <;> rfl) | (simp [*, errW_none, errW_some] <;> rfl), bwS⟩
   ·rw [if_neg c6] at H
    exact absurd H (by simp)
  ·rw [if_neg c5] at H
   have c5b0 : (a1.toList == ([] : List UInt8)) = false := beq_eq_false_iff_ne.mpr c5
   have c5b1 : (a1.toList != ([] : List UInt8)) = true := bne_iff_ne.mpr c5
   by_cases c10 : 9 + a1.size ≤ 9223372036854775807
   ·rw [if_pos c10] at H
    have c10b0 := eq_true c10
    have c10b1 : decide (9 + a1.size ≤ 9223372036854775807) = true := decide_eq_true c10
    try have c10b2 : (9223372036854775807 < 9 + a1.size) = False := eq_false (Nat.not_lt.2 c10)
    by_cases c11 : ((⟨#[60, 109, 97, 105, 108, 116, 111, 58]⟩ : ByteArray) ++ t258).size + ((⟨#[63, 115, 117, 98, 106, 101, 99, 116, 61]⟩ : ByteArray) ++ a1).size ≤ 9223372036854775807
    ·rw [if_pos c11] at H
     have c11b0 := eq_true c11
     have c11b1 : decide (((⟨#[60, 109, 97, 105, 108, 116, 111, 58]⟩ : ByteArray) ++ t258).size + ((⟨#[63, 115, 117, 98, 106, 101, 99, 116, 61]⟩ : ByteArray) ++ a1).size ≤ 9223372036854775807) = true := decide_eq_true c11
     try have c11b2 : (9223372036854775807 < ((⟨#[60, 109, 97, 105, 108, 116, 111, 58]⟩ : ByteArray) ++ t258).size + ((⟨#[63, 115, 117, 98, 106, 101, 99, 116, 61]⟩ : ByteArray) ++ a1).size) = False := eq_false (Nat.not_lt.2 c11)
     try (have c11b3 := c11; simp only [ByteArray.size_append, size_lit, ByteArray.size_extract, List.size_toArray, List.length_cons, List.length_nil, Nat.zero_add, Nat.reduceAdd] at c11b3; have c11b4 := eq_false (Nat.not_lt.2 c11b3))
     by_cases c12 : (((⟨#[60, 109, 97, 105, 108, 116, 111, 58]⟩ : ByteArray) ++ t258) ++ ((⟨#[63, 115, 117, 98, 106, 101, 99, 116, 61]⟩ : ByteArray) ++ a1)).size + 1 ≤ 9223372036854775807
     ·rw [if_pos c12] at H
      have c12b0 := eq_true c12
      have c12b1 : decide ((((⟨#[60, 109, 97, 105, 108, 116, 111, 58]⟩ : ByteArray) ++ t258) ++ ((⟨#[63, 115, 117, 98, 106, 101, 99, 116, 61]⟩ : ByteArray) ++ a1)).size + 1 ≤ 9223372036854775807) = true := decide_eq_true c12
      try have c12b2 : (9223372036854775807 < (((⟨#[60, 109, 97, 105, 108, 116, 111, 58]⟩ : ByteArray) ++ t258) ++ ((⟨#[63, 115, 117, 98, 106, 101, 99, 116, 61]⟩ : ByteArray) ++ a1)).size + 1) = False := eq_false (Nat.not_lt.2 c12)
      try (have c12b3 := c12; simp only [ByteArray.size_append, size_lit, ByteArray.size_extract, List.size_toArray, List.length_cons, List.length_nil, Nat.zero_add, Nat.reduceAdd] at c12b3; have c12b4 := eq_false (Nat.not_lt.2 c12b3))
      obtain rfl := Option.some.inj H
      go_enter Tryz.func34, Tryz.ntmps34
      go_wp2_with (first | ((with_reducible refine gate_dst (N := 2) rfl ?_); refine box_event ?hg (N := 2) ?hd (cs := #[.string a0_0, .string a0_1]) (t := 38) ?hr ?_; (case hd => rfl); (case hg => rfl); (case hr => first | (go_simp; done) | (go_simp; rfl)); intro gb257 hg w13 hbox hb; have n0_ := Aside0.mk (below_step bw hb); have n1_ := Aside0.mk (hbox); have n2_ := Aside0.mk ((by rw [hg]; exact (below_size bw) : w.heap.size ≤ gb257)); have n3_ := Aside0.mk ((by rw [hg]; exact (below_size bw) : w.heap.size ≤ gb257)); clear HB; have HB := n0_; have BK257 := n1_; have GW257 := n2_; have GE257 := n3_; clear n0_ n1_ n2_ n3_; clear hb hbox hg; have hcz14_0 : w13.cell? ⟨gb257, 0, none⟩ = some (.string a0_0) := (blk_cell BK257.out 0).trans rfl; have hcz14_1 : w13.cell? ⟨gb257, 1, none⟩ = some (.string a0_1) := (blk_cell BK257.out 1).trans rfl; have hfz14_0 := blk_frozen BK257.out 0; have hfz14_1 := blk_frozen BK257.out 1) | ((with_reducible refine gate_callee (f := 71) rfl ?_); refine goesL_ (some 7) rfl rfl Tryz.func71 (by kernel_rfl) rfl #[.agg #[.string a0_0, .string a0_1]] rfl am ?_; (with_reducible refine (addr_Addr_Text.calls k a0_0 a0_1 t258 _ A3.out).mono ?_); rintro e w15 ⟨rfl, hb⟩; refine ⟨_, rfl, ?_⟩; have n0_ := Aside0.mk (blk_below (g := gb257) (o := .cells #[.string a0_0, .string a0_1] 38 (0, 0)) bk hb); have n1_ := Aside0.mk (below_step bwS hb); clear BK257; clear HB; have BK257 := n0_; have HB := n1_; clear n0_ n1_; (try clear hb); (try clear hb2); (try clear hk); (try clear hi)))
      go_ret
      exact ⟨by first | rfl | (simp [errW_none, errW_some] <;> rfl) | (simp [*, errW_none, errW_some] <;> rfl), bwS⟩
     ·rw [if_neg c12] at H
      exact absurd H (by simp)
    ·rw [if_neg c11] at H
     exact absurd H (by simp)
   ·rw [if_neg c10] at H
    exact absurd H (by simp)
 ·rw [if_neg c4] at H
  exact absurd H (by simp)

end Go.Proofs.YtihabmcaplnbcaaGreatDoor.Fn
namespace Go.Proofs.YtihabmcaplnbcaaGreatDoor.Fn
open Go.RowKit Go.Proofs.YtihabmcaplnbcaaGreatDoorW.PrintWords Go.Proofs.YtihabmcaplnbcaaGreatDoorW.PrintLast Go.Proofs.YtihabmcaplnbcaaGreatDoorW.PrintMore
attribute [local go_sem] max2_int min2_int max_two min_two max_three min_three max_four min_four
set_option linter.unusedVariables false
set_option linter.unusedSimpArgs false

/-! ### dress_Copy: function 10 -/
def dress_Copy.f (k : Nat) (a0 : ByteArray) (a1 : ByteArray) (l2_0 : List (S35)) (a2_1 : ByteArray) (a3 : ByteArray) : Option ((List (S35)) × ByteArray) := (dress_at.f k a0 a1 4 a3).bind fun bt267 => ((dress_mailto.f k bt267.1 bt267.2 (⟨#[]⟩ : ByteArray)).bind fun t269 => (if t269.size + 11 ≤ 9223372036854775807 then (if (t269 ++ (⟨#[44, 32, 60, 104, 116, 116, 112, 115, 58, 47, 47]⟩ : ByteArray)).size + a0.size ≤ 9223372036854775807 then (if ((t269 ++ (⟨#[44, 32, 60, 104, 116, 116, 112, 115, 58, 47, 47]⟩ : ByteArray)) ++ a0).size + 7 ≤ 9223372036854775807 then (if (((t269 ++ (⟨#[44, 32, 60, 104, 116, 116, 112, 115, 58, 47, 47]⟩ : ByteArray)) ++ a0) ++ (⟨#[47, 108, 101, 97, 118, 101, 47]⟩ : ByteArray)).size + a3.size ≤ 9223372036854775807 then (if ((((t269 ++ (⟨#[44, 32, 60, 104, 116, 116, 112, 115, 58, 47, 47]⟩ : ByteArray)) ++ a0) ++ (⟨#[47, 108, 101, 97, 118, 101, 47]⟩ : ByteArray)) ++ a3).size + 1 ≤ 9223372036854775807 then ((some (([] : List (S35)) : List (S35))).bind fun y270 => (if y270.length + l2_0.length < 4398046511104 then ((some (y270 ++ l2_0 : List (S35))).bind fun y273 => ((dress_field.f (⟨#[76, 105, 115, 116, 45, 85, 110, 115, 117, 98, 115, 99, 114, 105, 98, 101]⟩ : ByteArray) (((((t269 ++ (⟨#[44, 32, 60, 104, 116, 116, 112, 115, 58, 47, 47]⟩ : ByteArray)) ++ a0) ++ (⟨#[47, 108, 101, 97, 118, 101, 47]⟩ : ByteArray)) ++ a3) ++ (⟨#[62]⟩ : ByteArray))).bind fun bt276 => ((dress_field.f (⟨#[76, 105, 115, 116, 45, 85, 110, 115, 117, 98, 115, 99, 114, 105, 98, 101, 45, 80, 111, 115, 116]⟩ : ByteArray) (⟨#[76, 105, 115, 116, 45, 85, 110, 115, 117, 98, 115, 99, 114, 105, 98, 101, 61, 79, 110, 101, 45, 67, 108, 105, 99, 107]⟩ : ByteArray)).bind fun bt278 => ((some (([(⟨bt276.1, bt276.2⟩ : S35), (⟨bt278.1, bt278.2⟩ : S35)] : List (S35)) : List (S35))).bind fun y280 => (if y273.length + y280.length < 4398046511104 then (some ((y273 ++ y280), a2_1)) else (none)))))) else (none))) else (none)) else (none)) else (none)) else (none)) else (none)))
set_option maxHeartbeats 8000000 in
set_option maxRecDepth 100000 in
theorem dress_Copy.calls (k : Nat) (a0 : ByteArray) (a1 : ByteArray) (A2_0 : Option Addr) (c2_0 : Nat) (l2_0 : List (S35)) (a2_1 : ByteArray) (a3 : ByteArray) (r1 : List (S35)) (r2 : ByteArray) (w : World) (hr2_0 : Kd.C k35 w A2_0 l2_0.length l2_0) (hc2_0 : l2_0.length ≤ c2_0) (h : dress_Copy.f k a0 a1 l2_0 a2_1 a3 = some (r1, r2)) :
  Calls Tryz.prog 10 #[.string a0, .string a1, .agg #[.slice A2_0 l2_0.length c2_0, .string a2_1], .string a3] w fun e w' => ∃ v0_ : Value, e = .returned (.agg #[v0_, .string r2]) ∧ Kd.R k35 35 w' w.heap.size (fun _ => True) v0_ r1 ∧ Below w.heap.size w w' := by
 have hu29 := Tryz.underlying29
 have HR2_0 := Aside0.mk hr2_0
 have HC2_0 := Aside0.mk hc2_0
 clear hr2_0 hc2_0
 have HB := Aside0.mk (Below.refl w.heap.size w)
 have H : ((dress_at.f k a0 a1 4 a3).bind fun bt267 => ((dress_mailto.f k bt267.1 bt267.2 (⟨#[]⟩ : ByteArray)).bind fun t269 => (if t269.size + 11 ≤ 9223372036854775807 then (if (t269 ++ (⟨#[44, 32, 60, 104, 116, 116, 112, 115, 58, 47, 47]⟩ : ByteArray)).size + a0.size ≤ 9223372036854775807 then (if ((t269 ++ (⟨#[44, 32, 60, 104, 116, 116, 112, 115, 58, 47, 47]⟩ : ByteArray)) ++ a0).size + 7 ≤ 9223372036854775807 then (if (((t269 ++ (⟨#[44, 32, 60, 104, 116, 116, 112, 115, 58, 47, 47]⟩ : ByteArray)) ++ a0) ++ (⟨#[47, 108, 101, 97, 118, 101, 47]⟩ : ByteArray)).size + a3.size ≤ 9223372036854775807 then (if ((((t269 ++ (⟨#[44, 32, 60, 104, 116, 116, 112, 115, 58, 47, 47]⟩ : ByteArray)) ++ a0) ++ (⟨#[47, 108, 101, 97, 118, 101, 47]⟩ : ByteArray)) ++ a3).size + 1 ≤ 9223372036854775807 then ((some (([] : List (S35)) : List (S35))).bind fun y270 => (if y270.length + l2_0.length < 4398046511104 then ((some (y270 ++ l2_0 : List (S35))).bind fun y273 => ((dress_field.f (⟨#[76, 105, 115, 116, 45, 85, 110, 115, 117, 98, 115, 99, 114, 105, 98, 101]⟩ : ByteArray) (((((t269 ++ (⟨#[44, 32, 60, 104, 116, 116, 112, 115, 58, 47, 47]⟩ : ByteArray)) ++ a0) ++ (⟨#[47, 108, 101, 97, 118, 101, 47]⟩ : ByteArray)) ++ a3) ++ (⟨#[62]⟩ : ByteArray))).bind fun bt276 => ((dress_field.f (⟨#[76, 105, 115, 116, 45, 85, 110, 115, 117, 98, 115, 99, 114, 105, 98, 101, 45, 80, 111, 115, 116]⟩ : ByteArray) (⟨#[76, 105, 115, 116, 45, 85, 110, 115, 117, 98, 115, 99, 114, 105, 98, 101, 61, 79, 110, 101, 45, 67, 108, 105, 99, 107]⟩ : ByteArray)).bind fun bt278 => ((some (([(⟨bt276.1, bt276.2⟩ : S35), (⟨bt278.1, bt278.2⟩ : S35)] : List (S35)) : List (S35))).bind fun y280 => (if y273.length + y280.length < 4398046511104 then (some ((y273 ++ y280), a2_1)) else (none)))))) else (none))) else (none)) else (none)) else (none)) else (none)) else (none)))) = some (r1, r2) := h
 clear h
 replace H := Option.bind_eq_some_iff.mp H
 obtain ⟨⟨t267, t268⟩, A50, H⟩ := H
 replace H : ((dress_mailto.f k t267 t268 (⟨#[]⟩ : ByteArray)).bind fun t269 => (if t269.size + 11 ≤ 9223372036854775807 then (if (t269 ++ (⟨#[44, 32, 60, 104, 116, 116, 112, 115, 58, 47, 47]⟩ : ByteArray)).size + a0.size ≤ 9223372036854775807 then (if ((t269 ++ (⟨#[44, 32, 60, 104, 116, 116, 112, 115, 58, 47, 47]⟩ : ByteArray)) ++ a0).size + 7 ≤ 9223372036854775807 then (if (((t269 ++ (⟨#[44, 32, 60, 104, 116, 116, 112, 115, 58, 47, 47]⟩ : ByteArray)) ++ a0) ++ (⟨#[47, 108, 101, 97, 118, 101, 47]⟩ : ByteArray)).size + a3.size ≤ 9223372036854775807 then (if ((((t269 ++ (⟨#[44, 32, 60, 104, 116, 116, 112, 115, 58, 47, 47]⟩ : ByteArray)) ++ a0) ++ (⟨#[47, 108, 101, 97, 118, 101, 47]⟩ : ByteArray)) ++ a3).size + 1 ≤ 9223372036854775807 then ((some (([] : List (S35)) : List (S35))).bind fun y270 => (if y270.length + l2_0.length < 4398046511104 then ((some (y270 ++ l2_0 : List (S35))).bind fun y273 => ((dress_field.f (⟨#[76, 105, 115, 116, 45, 85, 110, 115, 117, 98, 115, 99, 114, 105, 98, 101]⟩ : ByteArray) (((((t269 ++ (⟨#[44, 32, 60, 104, 116, 116, 112, 115, 58, 47, 47]⟩ : ByteArray)) ++ a0) ++ (⟨#[47, 108, 101, 97, 118, 101, 47]⟩ : ByteArray)) ++ a3) ++ (⟨#[62]⟩ : ByteArray))).bind fun bt276 => ((dress_field.f (⟨#[76, 105, 115, 116, 45, 85, 110, 115, 117, 98, 115, 99, 114, 105, 98, 101, 45, 80, 111, 115, 116]⟩ : ByteArray) (⟨#[76, 105, 115, 116, 45, 85, 110, 115, 117, 98, 115, 99, 114, 105, 98, 101, 61, 79, 110, 101, 45, 67, 108, 105, 99, 107]⟩ : ByteArray)).bind fun bt278 => ((some (([(⟨bt276.1, bt276.2⟩ : S35), (⟨bt278.1, bt278.2⟩ : S35)] : List (S35)) : List (S35))).bind fun y280 => (if y273.length + y280.length < 4398046511104 then (some ((y273 ++ y280), a2_1)) else (none)))))) else (none))) else (none)) else (none)) else (none)) else (none)) else (none))) = some (r1, r2) := H
 have A5 := Aside0.mk A50
 clear A50
 replace H := Option.bind_eq_some_iff.mp H
 obtain ⟨t269, A60, H⟩ := H
 replace H : (if t269.size + 11 ≤ 9223372036854775807 then (if (t269 ++ (⟨#[44, 32, 60, 104, 116, 116, 112, 115, 58, 47, 47]⟩ : ByteArray)).size + a0.size ≤ 9223372036854775807 then (if ((t269 ++ (⟨#[44, 32, 60, 104, 116, 116, 112, 115, 58, 47, 47]⟩ : ByteArray)) ++ a0).size + 7 ≤ 9223372036854775807 then (if (((t269 ++ (⟨#[44, 32, 60, 104, 116, 116, 112, 115, 58, 47, 47]⟩ : ByteArray)) ++ a0) ++ (⟨#[47, 108, 101, 97, 118, 101, 47]⟩ : ByteArray)).size + a3.size ≤ 9223372036854775807 then (if ((((t269 ++ (⟨#[44, 32, 60, 104, 116, 116, 112, 115, 58, 47, 47]⟩ : ByteArray)) ++ a0) ++ (⟨#[47, 108, 101, 97, 118, 101, 47]⟩ : ByteArray)) ++ a3).size + 1 ≤ 9223372036854775807 then ((some (([] : List (S35)) : List (S35))).bind fun y270 => (if y270.length + l2_0.length < 4398046511104 then ((some (y270 ++ l2_0 : List (S35))).bind fun y273 => ((dress_field.f (⟨#[76, 105, 115, 116, 45, 85, 110, 115, 117, 98, 115, 99, 114, 105, 98, 101]⟩ : ByteArray) (((((t269 ++ (⟨#[44, 32, 60, 104, 116, 116, 112, 115, 58, 47, 47]⟩ : ByteArray)) ++ a0) ++ (⟨#[47, 108, 101, 97, 118, 101, 47]⟩ : ByteArray)) ++ a3) ++ (⟨#[62]⟩ : ByteArray))).bind fun bt276 => ((dress_field.f (⟨#[76, 105, 115, 116, 45, 85, 110, 115, 117, 98, 115, 99, 114, 105, 98, 101, 45, 80, 111, 115, 116]⟩ : ByteArray) (⟨#[76, 105, 115, 116, 45, 85, 110, 115, 117, 98, 115, 99, 114, 105, 98, 101, 61, 79, 110, 101, 45, 67, 108, 105, 99, 107]⟩ : ByteArray)).bind fun bt278 => ((some (([(⟨bt276.1, bt276.2⟩ : S35), (⟨bt278.1, bt278.2⟩ : S35)] : List (S35)) : List (S35))).bind fun y280 => (if y273.length + y280.length < 4398046511104 then (some ((y273 ++ y280), a2_1)) else (none)))))) else (none))) else (none)) else (none)) else (none)) else (none)) else (none)) = some (r1, r2) := H
 have A6 := Aside0.mk A60
 clear A60
 by_cases c7 : t269.size + 11 ≤ 9223372036854775807
 ·rw [if_pos c7] at H
  have c7b0 := eq_true c7
  have c7b1 : decide (t269.size + 11 ≤ 9223372036854775807) = true := decide_eq_true c7
  try have c7b2 : (9223372036854775807 < t269.size + 11) = False := eq_false (Nat.not_lt.2 c7)
  by_cases c8 : (t269 ++ (⟨#[44, 32, 60, 104, 116, 116, 112, 115, 58, 47, 47]⟩ : ByteArray)).size + a0.size ≤ 9223372036854775807
  ·rw [if_pos c8] at H
   have c8b0 := eq_true c8
   have c8b1 : decide ((t269 ++ (⟨#[44, 32, 60, 104, 116, 116, 112, 115, 58, 47, 47]⟩ : ByteArray)).size + a0.size ≤ 9223372036854775807) = true := decide_eq_true c8
   try have c8b2 : (9223372036854775807 < (t269 ++ (⟨#[44, 32, 60, 104, 116, 116, 112, 115, 58, 47, 47]⟩ : ByteArray)).size + a0.size) = False := eq_false (Nat.not_lt.2 c8)
   try (have c8b3 := c8; simp only [ByteArray.size_append, size_lit, ByteArray.size_extract, List.size_toArray, List.length_cons, List.length_nil, Nat.zero_add, Nat.reduceAdd] at c8b3; have c8b4 := eq_false (Nat.not_lt.2 c8b3))
   by_cases c9 : ((t269 ++ (⟨#[44, 32, 60, 104, 116, 116, 112, 115, 58, 47, 47]⟩ : ByteArray)) ++ a0).size + 7 ≤ 9223372036854775807
   ·rw [if_pos c9] at H
    have c9b0 := eq_true c9
    have c9b1 : decide (((t269 ++ (⟨#[44, 32, 60, 104, 116, 116, 112, 115, 58, 47, 47]⟩ : ByteArray)) ++ a0).size + 7 ≤ 9223372036854775807) = true := decide_eq_true c9
    try have c9b2 : (9223372036854775807 < ((t269 ++ (⟨#[44, 32, 60, 104, 116, 116, 112, 115, 58, 47, 47]⟩ : ByteArray)) ++ a0).size + 7) = False := eq_false (Nat.not_lt.2 c9)
    try (have c9b3 := c9; simp only [ByteArray.size_append, size_lit, ByteArray.size_extract, List.size_toArray, List.length_cons, List.length_nil, Nat.zero_add, Nat.reduceAdd] at c9b3; have c9b4 := eq_false (Nat.not_lt.2 c9b3))
    by_cases c10 : (((t269 ++ (⟨#[44, 32, 60, 104, 116, 116, 112, 115, 58, 47, 47]⟩ : ByteArray)) ++ a0) ++ (⟨#[47, 108, 101, 97, 118, 101, 47]⟩ : ByteArray)).size + a3.size ≤ 9223372036854775807
    ·rw [if_pos c10] at H
     have c10b0 := eq_true c10
     have c10b1 : decide ((((t269 ++ (⟨#[44, 32, 60, 104, 116, 116, 112, 115, 58, 47, 47]⟩ : ByteArray)) ++ a0) ++ (⟨#[47, 108, 101, 97, 118, 101, 47]⟩ : ByteArray)).size + a3.size ≤ 9223372036854775807) = true := decide_eq_true c10
     try have c10b2 : (9223372036854775807 < (((t269 ++ (⟨#[44, 32, 60, 104, 116, 116, 112, 115, 58, 47, 47]⟩ : ByteArray)) ++ a0) ++ (⟨#[47, 108, 101, 97, 118, 101, 47]⟩ : ByteArray)).size + a3.size) = False := eq_false (Nat.not_lt.2 c10)
     try (have c10b3 := c10; simp only [ByteArray.size_append, size_lit, ByteArray.size_extract, List.size_toArray, List.length_cons, List.length_nil, Nat.zero_add, Nat.reduceAdd] at c10b3; have c10b4 := eq_false (Nat.not_lt.2 c10b3))
     by_cases c11 : ((((t269 ++ (⟨#[44, 32, 60, 104, 116, 116, 112, 115, 58, 47, 47]⟩ : ByteArray)) ++ a0) ++ (⟨#[47, 108, 101, 97, 118, 101, 47]⟩ : ByteArray)) ++ a3).size + 1 ≤ 9223372036854775807
     ·rw [if_pos c11] at H
      have c11b0 := eq_true c11
      have c11b1 : decide (((((t269 ++ (⟨#[44, 32, 60, 104, 116, 116, 112, 115, 58, 47, 47]⟩ : ByteArray)) ++ a0) ++ (⟨#[47, 108, 101, 97, 118, 101, 47]⟩ : ByteArray)) ++ a3).size + 1 ≤ 9223372036854775807) = true := decide_eq_true c11
      try have c11b2 : (9223372036854775807 < ((((t269 ++ (⟨#[44, 32, 60, 104, 116, 116, 112, 115, 58, 47, 47]⟩ : ByteArray)) ++ a0) ++ (⟨#[47, 108, 101, 97, 118, 101, 47]⟩ : ByteArray)) ++ a3).size + 1) = False := eq_false (Nat.not_lt.2 c11)
      try (have c11b3 := c11; simp only [ByteArray.size_append, size_lit, ByteArray.size_extract, List.size_toArray, List.length_cons, List.length_nil, Nat.zero_add, Nat.reduceAdd] at c11b3; have c11b4 := eq_false (Nat.not_lt.2 c11b3))
      obtain ⟨y270, hy270⟩ : ∃ y_ : List (S35), y_ = (([] : List (S35))) := ⟨_, rfl⟩
      replace H : (if y270.length + l2_0.length < 4398046511104 then ((some (y270 ++ l2_0 : List (S35))).bind fun y273 => ((dress_field.f (⟨#[76, 105, 115, 116, 45, 85, 110, 115, 117, 98, 115, 99, 114, 105, 98, 101]⟩ : ByteArray) (((((t269 ++ (⟨#[44, 32, 60, 104, 116, 116, 112, 115, 58, 47, 47]⟩ : ByteArray)) ++ a0) ++ (⟨#[47, 108, 101, 97, 118, 101, 47]⟩ : ByteArray)) ++ a3) ++ (⟨#[62]⟩ : ByteArray))).bind fun bt276 => ((dress_field.f (⟨#[76, 105, 115, 116, 45, 85, 110, 115, 117, 98, 115, 99, 114, 105, 98, 101, 45, 80, 111, 115, 116]⟩ : ByteArray) (⟨#[76, 105, 115, 116, 45, 85, 110, 115, 117, 98, 115, 99, 114, 105, 98, 101, 61, 79, 110, 101, 45, 67, 108, 105, 99, 107]⟩ : ByteArray)).bind fun bt278 => ((some (([(⟨bt276.1, bt276.2⟩ : S35), (⟨bt278.1, bt278.2⟩ : S35)] : List (S35)) : List (S35))).bind fun y280 => (if y273.length + y280.length < 4398046511104 then (some ((y273 ++ y280), a2_1)) else (none)))))) else (none)) = some (r1, r2) := by first | (rw [hy270]; with_reducible exact H) | (have H2_ := (Option.bind_some _ _).symm.trans H; rw [hy270]; with_reducible exact H2_) | (have H2_ := (Option.bind_some _ _).symm.trans H; with_reducible exact H2_) | with_reducible exact H | (rw [hy270]; exact H) | exact H
      have Ny270 := Aside0.mk hy270
      clear hy270
      by_cases c12 : y270.length + l2_0.length < 4398046511104
      ·rw [if_pos c12] at H
       have LMc12 := Aside0.mk c12
       clear c12
       obtain ⟨y273, hy273⟩ : ∃ y_ : List (S35), y_ = (y270 ++ l2_0) := ⟨_, rfl⟩
       replace H : ((dress_field.f (⟨#[76, 105, 115, 116, 45, 85, 110, 115, 117, 98, 115, 99, 114, 105, 98, 101]⟩ : ByteArray) (((((t269 ++ (⟨#[44, 32, 60, 104, 116, 116, 112, 115, 58, 47, 47]⟩ : ByteArray)) ++ a0) ++ (⟨#[47, 108, 101, 97, 118, 101, 47]⟩ : ByteArray)) ++ a3) ++ (⟨#[62]⟩ : ByteArray))).bind fun bt276 => ((dress_field.f (⟨#[76, 105, 115, 116, 45, 85, 110, 115, 117, 98, 115, 99, 114, 105, 98, 101, 45, 80, 111, 115, 116]⟩ : ByteArray) (⟨#[76, 105, 115, 116, 45, 85, 110, 115, 117, 98, 115, 99, 114, 105, 98, 101, 61, 79, 110, 101, 45, 67, 108, 105, 99, 107]⟩ : ByteArray)).bind fun bt278 => ((some (([(⟨bt276.1, bt276.2⟩ : S35), (⟨bt278.1, bt278.2⟩ : S35)] : List (S35)) : List (S35))).bind fun y280 => (if y273.length + y280.length < 4398046511104 then (some ((y273 ++ y280), a2_1)) else (none))))) = some (r1, r2) := by first | (rw [hy273]; with_reducible exact H) | (have H2_ := (Option.bind_some _ _).symm.trans H; rw [hy273]; with_reducible exact H2_) | (have H2_ := (Option.bind_some _ _).symm.trans H; with_reducible exact H2_) | with_reducible exact H | (rw [hy273]; exact H) | exact H
       have Ny273 := Aside0.mk hy273
       clear hy273
       replace H := Option.bind_eq_some_iff.mp H
       obtain ⟨⟨t276, t277⟩, A130, H⟩ := H
       replace H : ((dress_field.f (⟨#[76, 105, 115, 116, 45, 85, 110, 115, 117, 98, 115, 99, 114, 105, 98, 101, 45, 80, 111, 115, 116]⟩ : ByteArray) (⟨#[76, 105, 115, 116, 45, 85, 110, 115, 117, 98, 115, 99, 114, 105, 98, 101, 61, 79, 110, 101, 45, 67, 108, 105, 99, 107]⟩ : ByteArray)).bind fun bt278 => ((some (([(⟨t276, t277⟩ : S35), (⟨bt278.1, bt278.2⟩ : S35)] : List (S35)) : List (S35))).bind fun y280 => (if y273.length + y280.length < 4398046511104 then (some ((y273 ++ y280), a2_1)) else (none)))) = some (r1, r2) := H
       have A13 := Aside0.mk A130
       clear A130
       replace H := Option.bind_eq_some_iff.mp H
       obtain ⟨⟨t278, t279⟩, A140, H⟩ := H
       replace H : ((some (([(⟨t276, t277⟩ : S35), (⟨t278, t279⟩ : S35)] : List (S35)) : List (S35))).bind fun y280 => (if y273.length + y280.length < 4398046511104 then (some ((y273 ++ y280), a2_1)) else (none))) = some (r1, r2) := H
       have A14 := Aside0.mk A140
       clear A140
       obtain ⟨y280, hy280⟩ : ∃ y_ : List (S35), y_ = (([(⟨t276, t277⟩ : S35), (⟨t278, t279⟩ : S35)] : List (S35))) := ⟨_, rfl⟩
       replace H : (if y273.length + y280.length < 4398046511104 then (some ((y273 ++ y280), a2_1)) else (none)) = some (r1, r2) := by first | (rw [hy280]; with_reducible exact H) | (have H2_ := (Option.bind_some _ _).symm.trans H; rw [hy280]; with_reducible exact H2_) | (have H2_ := (Option.bind_some _ _).symm.trans H; with_reducible exact H2_) | with_reducible exact H | (rw [hy280]; exact H) | exact H
       have Ny280 := Aside0.mk hy280
       clear hy280
       by_cases c15 : y273.length + y280.length < 4398046511104
       ·rw [if_pos c15] at H
        have LMc15 := Aside0.mk c15
        clear c15
        obtain ⟨y283, hy283⟩ : ∃ y_ : List (S35), y_ = (y273 ++ y280) := ⟨_, rfl⟩
        replace H : (some (y283, a2_1)) = some (r1, r2) := by first | (rw [hy283]; with_reducible exact H) | (have H2_ := (Option.bind_some _ _).symm.trans H; rw [hy283]; with_reducible exact H2_) | (have H2_ := (Option.bind_some _ _).symm.trans H; with_reducible exact H2_) | with_reducible exact H | (rw [hy283]; exact H) | exact H
        have Ny283 := Aside0.mk hy283
        clear hy283
        simp only [Option.some.injEq, Prod.mk.injEq] at H
        obtain ⟨rfl, rfl⟩ := H
        go_enter Tryz.func10, Tryz.ntmps10
        go_wp2_with (first | ((with_reducible refine gate_dst (N := 6) rfl ?_); refine box_event ?hg (N := 6) ?hd (cs := #[.slice A2_0 l2_0.length c2_0, .string a2_1]) (t := 29) ?hr ?_; (case hd => rfl); (case hg => rfl); (case hr => first | (go_simp; done) | (go_simp; rfl)); intro gb265 hg w16 hbox hb; have n0_ := Aside0.mk (below_step bw hb); have n1_ := Aside0.mk (hbox); have n2_ := Aside0.mk ((by rw [hg]; exact (below_size bw) : w.heap.size ≤ gb265)); have n3_ := Aside0.mk ((by rw [hg]; exact (below_size bw) : w.heap.size ≤ gb265)); clear HB; have HB := n0_; have BK265 := n1_; have GW265 := n2_; have GE265 := n3_; clear n0_ n1_ n2_ n3_; clear hb hbox hg) | ((with_reducible refine gate_dst (N := 8) rfl ?_); refine box_event ?hg (N := 8) ?hd (cs := #[.slice none 0 0, .string (⟨#[]⟩ : ByteArray)]) (t := 29) ?hr ?_; (case hd => rfl); (case hg => rfl); (case hr => first | (go_simp; done) | (go_simp; rfl)); intro gb266 hg w17 hbox hb; have n0_ := Aside0.mk (blk_below (g := gb265) (o := .cells #[.slice A2_0 l2_0.length c2_0, .string a2_1] 29 (0, 0)) bk hb); have n1_ := Aside0.mk (below_step bwS hb); have n2_ := Aside0.mk (hbox); have n3_ := Aside0.mk ((by rw [hg]; exact (below_size bwS) : w.heap.size ≤ gb266)); have n4_ := Aside0.mk ((by rw [hg]; exact (below_size bwS) : w.heap.size ≤ gb266)); have n5_ := Aside0.mk ((by rw [hg]; exact Nat.ne_of_lt (blk_lt (g := gb265) (o := .cells #[.slice A2_0 l2_0.length c2_0, .string a2_1] 29 (0, 0)) bk) : gb265 ≠ gb266)); have n6_ := Aside0.mk ((by rw [hg]; exact Nat.ne_of_gt (blk_lt (g := gb265) (o := .cells #[.slice A2_0 l2_0.length c2_0, .string a2_1] 29 (0, 0)) bk) : gb266 ≠ gb265)); clear BK265; clear HB; have BK265 := n0_; have HB := n1_; have BK266 := n2_; have GW266 := n3_; have GE266 := n4_; have NB265_266 := n5_; have NB266_265 := n6_; clear n0_ n1_ n2_ n3_ n4_ n5_ n6_; clear hb hbox hg) | ((with_reducible refine gate_callee (f := 35) rfl ?_); refine goesL_ (some 14) rfl rfl Tryz.func35 (by kernel_rfl) rfl #[.string a0, .string a1, .int .i64 4, .string a3] rfl am ?_; (with_reducible refine (dress_at.calls k a0 a1 4 a3 t267 t268 _ A5.out).mono ?_); rintro e w18 ⟨rfl, hb⟩; refine ⟨_, rfl, ?_⟩; have n0_ := Aside0.mk (blk_below (g := gb265) (o := .cells #[.slice A2_0 l2_0.length c2_0, .string a2_1] 29 (0, 0)) bk hb); have n1_ := Aside0.mk (blk_below (g := gb266) (o := .cells #[.slice none 0 0, .string (⟨#[]⟩ : ByteArray)] 29 (0, 0)) bk hb); have n2_ := Aside0.mk (below_step bwS hb); clear BK265; clear BK266; clear HB; have BK265 := n0_; have BK266 := n1_; have HB := n2_; clear n0_ n1_ n2_; (try clear hb); (try clear hb2); (try clear hk); (try clear hi)) | ((with_reducible refine gate_callee (f := 34) rfl ?_); refine goesL_ (some 15) rfl rfl Tryz.func34 (by kernel_rfl) rfl #[.agg #[.string t267, .string t268], .string (⟨#[]⟩ : ByteArray)] rfl am ?_; (with_reducible refine (dress_mailto.calls k t267 t268 (⟨#[]⟩ : ByteArray) t269 _ A6.out).mono ?_); rintro e w19 ⟨rfl, hb⟩; refine ⟨_, rfl, ?_⟩; have n0_ := Aside0.mk (blk_below (g := gb265) (o := .cells #[.slice A2_0 l2_0.length c2_0, .string a2_1] 29 (0, 0)) bk hb); have n1_ := Aside0.mk (blk_below (g := gb266) (o := .cells #[.slice none 0 0, .string (⟨#[]⟩ : ByteArray)] 29 (0, 0)) bk hb); have n2_ := Aside0.mk (below_step bwS hb); clear BK265; clear BK266; clear HB; have BK265 := n0_; have BK266 := n1_; have HB := n2_; clear n0_ n1_ n2_; (try clear hb); (try clear hb2); (try clear hk); (try clear hi)) | ((with_reducible refine gate_dst (N := 23) rfl ?_); refine Kd.R_lit k35 _ 35 ?hg (N := 23) ?hd (xs := ([] : List (S35))) (inner := []) (ok := fun _ => True) (okp := fun _ => True) ?hr ?hp (fun _ hk => hk) trivial (Below.refl _ _) (Nat.le_refl _) (by simp) ?_; (case hd => rfl); (case hg => rfl); (case hr => first | (go_simp; done) | (go_simp; rfl)); (case hp => exact (Reps.none _ _)); intro v271 w20 ho21 hb hg_ hnew_; clear hg_ hnew_; (first | rw [← Ny270.out] at ho21 | (simp only [Int.reduceToNat] at ho21; rw [← Ny270.out] at ho21)); have n0_ := Aside0.mk (Kd.R_lower ho21 (below_size bwS)); have n1_ := Aside0.mk (blk_below (g := gb265) (o := .cells #[.slice A2_0 l2_0.length c2_0, .string a2_1] 29 (0, 0)) bk hb); have n2_ := Aside0.mk (blk_below (g := gb266) (o := .cells #[.slice none 0 0, .string (⟨#[]⟩ : ByteArray)] 29 (0, 0)) bk hb); have n3_ := Aside0.mk (below_step bwS hb); clear BK265; clear BK266; clear HB; have HO272 := n0_; have BK265 := n1_; have BK266 := n2_; have HB := n3_; clear n0_ n1_ n2_ n3_; clear hb ho21; have hnb22 := NB265_266.out; have hnc22 := NB266_265.out; have hcz23_0 : w20.cell? ⟨gb265, 0, none⟩ = some (.slice A2_0 l2_0.length c2_0) := (blk_cell BK265.out 0).trans rfl; have hcz23_1 : w20.cell? ⟨gb265, 1, none⟩ = some (.string a2_1) := (blk_cell BK265.out 1).trans rfl; have hfz23_0 := blk_frozen BK265.out 0; have hfz23_1 := blk_frozen BK265.out 1) | ((with_reducible refine gate_builtin (b := .append) (xs := #[.tmp 23, .tmp 25]) rfl ?_); at_builtin; refine Kd.R_append_rows k35 (w0 := w) w.heap.size rfl (.tmp 23) (.tmp 25) 27 35 (.agg #[(.string ⟨#[]⟩), (.string ⟨#[]⟩)]) 32 rfl Tryz.underlying27 info35 rfl (by decide) (by omega) v271 y270 l2_0 _ _ _ (fun _ => True) (fun _ => False) rfl rfl ?aO ?aR (fun _ _ h => h) (fun _ h => h.elim) ?aF ?aB ?aS ?aL ?_; (case aR => repeat (first | exact (Kd.C_below HR2_0.out HB.out) | (with_reducible refine Kd.C_alloc ?_ _) | (with_reducible refine Kd.C_drewN ?_ _) | (with_reducible refine Kd.C_drew ?_))); (case aB => exact bwS); (case aF => exact (fun _ _ => trivial)); (case aO => exact (by (with_reducible repeat (first | apply Kd.R_alloc | apply Kd.R_drewN | apply Kd.R_drew)); exact HO272.out)); (case aS => exact (below_size bwS)); (case aL => have := LMc12.out; omega); intro v274 w24 ho hb hg hat; rw [← Ny273.out] at ho; have n0_ := Aside0.mk (blk_grown (g := gb265) (o := .cells #[.slice A2_0 l2_0.length c2_0, .string a2_1] 29 (0, 0)) bk hg (Kd.R_ne HO272.out BK265.out (by decide))); have n1_ := Aside0.mk (blk_grown (g := gb266) (o := .cells #[.slice none 0 0, .string (⟨#[]⟩ : ByteArray)] 29 (0, 0)) bk hg (Kd.R_ne HO272.out BK266.out (by decide))); have n2_ := Aside0.mk (hb); have n3_ := Aside0.mk (ho); clear BK265; clear BK266; clear HB; clear HO272; have BK265 := n0_; have BK266 := n1_; have HB := n2_; have HO275 := n3_; clear n0_ n1_ n2_ n3_; clear ho hb hg hat) | ((with_reducible refine gate_callee (f := 36) rfl ?_); refine goesL_ (some 29) rfl rfl Tryz.func36 (by kernel_rfl) rfl #[.string (⟨#[76, 105, 115, 116, 45, 85, 110, 115, 117, 98, 115, 99, 114, 105, 98, 101]⟩ : ByteArray), .string (((((t269 ++ (⟨#[44, 32, 60, 104, 116, 116, 112, 115, 58, 47, 47]⟩ : ByteArray)) ++ a0) ++ (⟨#[47, 108, 101, 97, 118, 101, 47]⟩ : ByteArray)) ++ a3) ++ (⟨#[62]⟩ : ByteArray))] rfl am ?_; (with_reducible refine (dress_field.calls (⟨#[76, 105, 115, 116, 45, 85, 110, 115, 117, 98, 115, 99, 114, 105, 98, 101]⟩ : ByteArray) (((((t269 ++ (⟨#[44, 32, 60, 104, 116, 116, 112, 115, 58, 47, 47]⟩ : ByteArray)) ++ a0) ++ (⟨#[47, 108, 101, 97, 118, 101, 47]⟩ : ByteArray)) ++ a3) ++ (⟨#[62]⟩ : ByteArray)) t276 t277 _ A13.out).mono ?_); rintro e w25 ⟨rfl, hb⟩; refine ⟨_, rfl, ?_⟩; have n0_ := Aside0.mk (Kd.R_below (by (with_reducible repeat (first | apply Kd.R_alloc | apply Kd.R_drewN | apply Kd.R_drew)); exact HO275.out) hb); have n1_ := Aside0.mk (blk_below (g := gb265) (o := .cells #[.slice A2_0 l2_0.length c2_0, .string a2_1] 29 (0, 0)) bk hb); have n2_ := Aside0.mk (blk_below (g := gb266) (o := .cells #[.slice none 0 0, .string (⟨#[]⟩ : ByteArray)] 29 (0, 0)) bk hb); have n3_ := Aside0.mk (below_step bwS hb); clear HO275; clear BK265; clear BK266; clear HB; have HO275 := n0_; have BK265 := n1_; have BK266 := n2_; have HB := n3_; clear n0_ n1_ n2_ n3_; (try clear hb); (try clear hb2); (try clear hk); (try clear hi)) | ((with_reducible refine gate_callee (f := 36) rfl ?_); refine goesL_ (some 30) rfl rfl Tryz.func36 (by kernel_rfl) rfl #[.string (⟨#[76, 105, 115, 116, 45, 85, 110, 115, 117, 98, 115, 99, 114, 105, 98, 101, 45, 80, 111, 115, 116]⟩ : ByteArray), .string (⟨#[76, 105, 115, 116, 45, 85, 110, 115, 117, 98, 115, 99, 114, 105, 98, 101, 61, 79, 110, 101, 45, 67, 108, 105, 99, 107]⟩ : ByteArray)] rfl am ?_; (with_reducible refine (dress_field.calls (⟨#[76, 105, 115, 116, 45, 85, 110, 115, 117, 98, 115, 99, 114, 105, 98, 101, 45, 80, 111, 115, 116]⟩ : ByteArray) (⟨#[76, 105, 115, 116, 45, 85, 110, 115, 117, 98, 115, 99, 114, 105, 98, 101, 61, 79, 110, 101, 45, 67, 108, 105, 99, 107]⟩ : ByteArray) t278 t279 _ A14.out).mono ?_); rintro e w26 ⟨rfl, hb⟩; refine ⟨_, rfl, ?_⟩; have n0_ := Aside0.mk (Kd.R_below (by (with_reducible repeat (first | apply Kd.R_alloc | apply Kd.R_drewN | apply Kd.R_drew)); exact HO275.out) hb); have n1_ := Aside0.mk (blk_below (g := gb265) (o := .cells #[.slice A2_0 l2_0.length c2_0, .string a2_1] 29 (0, 0)) bk hb); have n2_ := Aside0.mk (blk_below (g := gb266) (o := .cells #[.slice none 0 0, .string (⟨#[]⟩ : ByteArray)] 29 (0, 0)) bk hb); have n3_ := Aside0.mk (below_step bwS hb); clear HO275; clear BK265; clear BK266; clear HB; have HO275 := n0_; have BK265 := n1_; have BK266 := n2_; have HB := n3_; clear n0_ n1_ n2_ n3_; (try clear hb); (try clear hb2); (try clear hk); (try clear hi)) | ((with_reducible refine gate_dst (N := 31) rfl ?_); refine Kd.R_lit k35 _ 35 ?hg (N := 31) ?hd (xs := ([(⟨t276, t277⟩ : S35), (⟨t278, t279⟩ : S35)] : List (S35))) (inner := [.string t276, .string t277, .string t278, .string t279]) (ok := fun _ => True) (okp := fun _ => True) ?hr ?hp (fun _ hk => hk) trivial (Below.refl _ _) (Nat.le_refl _) (by simp) ?_; (case hd => rfl); (case hg => rfl); (case hr => first | (go_simp; done) | (go_simp; rfl)); (case hp => exact (Reps.c2 (show Kd.M k35 _ _ _ (⟨t276, t277⟩ : S35) [.string t276, .string t277] from (k35_mkM _ _ _ (⟨t276, t277⟩ : S35) )) (Reps.c2 (show Kd.M k35 _ _ _ (⟨t278, t279⟩ : S35) [.string t278, .string t279] from (k35_mkM _ _ _ (⟨t278, t279⟩ : S35) )) (Reps.none _ _)))); intro v281 w27 ho28 hb hg_ hnew_; clear hg_ hnew_; (first | rw [← Ny280.out] at ho28 | (simp only [Int.reduceToNat] at ho28; rw [← Ny280.out] at ho28)); have n0_ := Aside0.mk (Kd.R_elder' (by (with_reducible repeat (first | apply Kd.R_alloc | apply Kd.R_drewN | apply Kd.R_drew)); exact HO275.out) (Kd.R_base ho28) hb); have n1_ := Aside0.mk (Kd.R_lower (Kd.R_new' ho28 (Kd.R_lt (by (with_reducible repeat (first | apply Kd.R_alloc | apply Kd.R_drewN | apply Kd.R_drew)); exact HO275.out))) (below_size bwS)); have n2_ := Aside0.mk (blk_below (g := gb265) (o := .cells #[.slice A2_0 l2_0.length c2_0, .string a2_1] 29 (0, 0)) bk hb); have n3_ := Aside0.mk (blk_below (g := gb266) (o := .cells #[.slice none 0 0, .string (⟨#[]⟩ : ByteArray)] 29 (0, 0)) bk hb); have n4_ := Aside0.mk (below_step bwS hb); clear HO275; clear BK265; clear BK266; clear HB; have HO275 := n0_; have HO282 := n1_; have BK265 := n2_; have BK266 := n3_; have HB := n4_; clear n0_ n1_ n2_ n3_ n4_; clear hb ho28; obtain ⟨Ao30, co30, eo30⟩ := Kd.R_slice HO282.out; subst eo30) | ((with_reducible refine gate_builtin (b := .append) (xs := #[.tmp 27, .tmp 31]) rfl ?_); at_builtin; refine Kd.R_append_rows k35 (w0 := w) w.heap.size rfl (.tmp 27) (.tmp 31) 27 35 (.agg #[(.string ⟨#[]⟩), (.string ⟨#[]⟩)]) 32 rfl Tryz.underlying27 info35 rfl (by decide) (by omega) v274 y273 y280 _ _ _ (fun k_ => some k_ ≠ (.slice Ao30 y280.length co30 : Value).ownBlock) (fun _ => False) rfl rfl ?aO ?aR (fun _ _ h => h) (fun _ h => h.elim) ?aF ?aB ?aS ?aL ?_; (case aR => repeat (first | exact (Kd.R_reads' HO282.out).2.2 | (with_reducible refine Kd.C_alloc ?_ _) | (with_reducible refine Kd.C_drewN ?_ _) | (with_reducible refine Kd.C_drew ?_))); (case aB => exact bwS); (case aF => exact (fun k_ hk => Kd.fresh' (Kd.R_lt (by (with_reducible repeat (first | apply Kd.R_alloc | apply Kd.R_drewN | apply Kd.R_drew)); exact HO282.out)) k_ hk)); (case aO => exact (by (with_reducible repeat (first | apply Kd.R_alloc | apply Kd.R_drewN | apply Kd.R_drew)); exact Kd.R_mono HO275.out (fun _ hk => hk.2))); (case aS => exact (below_size bwS)); (case aL => have := LMc15.out; omega); intro v284 w29 ho hb hg hat; rw [← Ny283.out] at ho; have n0_ := Aside0.mk (blk_grown (g := gb265) (o := .cells #[.slice A2_0 l2_0.length c2_0, .string a2_1] 29 (0, 0)) bk hg (Kd.R_ne HO275.out BK265.out (by decide))); have n1_ := Aside0.mk (blk_grown (g := gb266) (o := .cells #[.slice none 0 0, .string (⟨#[]⟩ : ByteArray)] 29 (0, 0)) bk hg (Kd.R_ne HO275.out BK266.out (by decide))); have n2_ := Aside0.mk (Kd.R_after (ok := (fun _ => True)) (by (with_reducible repeat (first | apply Kd.R_alloc | apply Kd.R_drewN | apply Kd.R_drew)); exact HO282.out) hg hat); have n3_ := Aside0.mk (hb); have n4_ := Aside0.mk (ho); clear BK265; clear BK266; clear HO282; clear HB; clear HO275; have BK265 := n0_; have BK266 := n1_; have HO282 := n2_; have HB := n3_; have HO285 := n4_; clear n0_ n1_ n2_ n3_ n4_; clear ho hb hg hat; have hcz31_0 : w29.cell? ⟨gb265, 0, none⟩ = some (.slice A2_0 l2_0.length c2_0) := (blk_cell BK265.out 0).trans rfl; have hcz31_1 : w29.cell? ⟨gb265, 1, none⟩ = some (.string a2_1) := (blk_cell BK265.out 1).trans rfl; have hfz31_0 := blk_frozen BK265.out 0; have hfz31_1 := blk_frozen BK265.out 1; obtain ⟨Ao32, co32, eo32⟩ := Kd.R_slice HO285.out; subst eo32; have hcz33_0 : w29.cell? ⟨gb266, 0, none⟩ = some (.slice none 0 0) := (blk_cell BK266.out 0).trans rfl; have hcz33_1 : w29.cell? ⟨gb266, 1, none⟩ = some (.string (⟨#[]⟩ : ByteArray)) := (blk_cell BK266.out 1).trans rfl; have hfz33_0 := blk_frozen BK266.out 0; have hfz33_1 := blk_frozen BK266.out 1))
        refine bodyPost_ret (results_cell_row rfl _ _ gb266 29 #[.slice Ao32 y283.length co32, .string a2_1] (0, 0) _ rfl (by (with_reducible repeat (first | refine blk_drewN ?_ _ | refine blk_drew ?_ | refine blk_alloc ?_ _)); refine blk_put (cs := #[.slice Ao32 y283.length co32, .string (⟨#[]⟩ : ByteArray)]) ?_ 1 _ rfl; (with_reducible repeat (first | refine blk_drewN ?_ _ | refine blk_drew ?_ | refine blk_alloc ?_ _)); refine blk_put (cs := #[.slice none 0 0, .string (⟨#[]⟩ : ByteArray)]) ?_ 0 _ rfl; (with_reducible repeat (first | refine blk_drewN ?_ _ | refine blk_drew ?_ | refine blk_alloc ?_ _)); exact BK266.out) Tryz.underlying29 rfl (by kernel_rfl)) rfl ?_
        exact ⟨_, by first | rfl | (simp [errW_none, errW_some] <;> rfl) | (simp [*, errW_none, errW_some] <;> rfl), by (with_reducible repeat (first | apply Kd.R_alloc | apply Kd.R_drewN | apply Kd.R_drew)); exact Kd.R_mono (Kd.R_far (p := ⟨gb266, 1, none⟩) (Kd.R_far (p := ⟨gb266, 0, none⟩) (Kd.R_types HO285.out BK266.out (by decide)) (fun _ hk => hk.2) (.slice Ao32 y283.length co32)) (fun _ hk => hk.2) (.string a2_1)) (fun _ hk => trivial), bwS⟩
       ·rw [if_neg c15] at H
        exact absurd H (by simp)
      ·rw [if_neg c12] at H
       exact absurd H (by simp)
     ·rw [if_neg c11] at H
      exact absurd H (by simp)
    ·rw [if_neg c10] at H
     exact absurd H (by simp)
   ·rw [if_neg c9] at H
    exact absurd H (by simp)
  ·rw [if_neg c8] at H
   exact absurd H (by simp)
 ·rw [if_neg c7] at H
  exact absurd H (by simp)

end Go.Proofs.YtihabmcaplnbcaaGreatDoor.Fn
