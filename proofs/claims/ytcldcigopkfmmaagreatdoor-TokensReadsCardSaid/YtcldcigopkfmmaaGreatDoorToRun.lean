/- Tokens: run, the kinds, silence. -/
import Derived.Test.YtcldcigopkfmmaaGreatDoorRows
import Derived.Test.YtcldcigopkfmmaaGreatDoorShelf
import Derived.Test.YtcldcigopkfmmaaGreatDoorToPlain
import Derived.Test.YtcldcigopkfmmaaGreatDoorTag
import Derived.Lib.SlTrimSet
namespace Go.Proofs.YtcldcigopkfmmaaGreatDoor
open Go.RowKit Go.My

/-- A text. -/
def bs (l : List UInt8) : ByteArray := ⟨l.toArray⟩
theorem bs_size (l : List UInt8) : (bs l).size = l.length := by simp [bs, ByteArray.size]
theorem bs_list (l : List UInt8) : (bs l).data.toList = l := by simp [bs]
theorem bs_of (s : ByteArray) : s = bs s.data.toList := by cases s; simp [bs]

theorem drop_run (p : UInt8 → Bool) (l : List UInt8) : l.dropWhile p = l.drop (To.run p l) := by
  induction l with
  | nil => rfl
  | cons c l ih =>
    unfold To.run
    rw [List.dropWhile_cons]
    by_cases h : p c = true
    · rw [if_pos h, if_pos h, List.drop_succ_cons, ih]
    · rw [if_neg h, if_neg h, List.drop_zero]

/-- A cutset, and what it is of. -/
structure Cut (cs : List UInt8) (p : UInt8 → Bool) : Prop where
  ascii : ∀ (j : Nat) b, cs[j]? = some b → b.toNat < 128
  is : ∀ c, cs.contains c = p c
  small : cs.length < 1000

theorem trim_t {w : World} {cs : List UInt8} {p : UInt8 → Bool} (hc : Cut cs p) (l : List UInt8) {Q : Ending → World → Prop} (h : ∀ w', Below w.heap.size w w' → Q (.returned (.string (bs (l.drop (To.run p l))))) w') :
    Calls Tryz.prog 145 #[.string (bs l), .string (bs cs)] w Q := by
  have hcon := Any.strings_TrimLeft_laid Tryz.lays161 (by kernel_rfl) (bs l) (bs cs) w (by rw [bs_size]; have := hc.small; omega) (by rw [bs_list]; exact hc.ascii)
  refine Calls.mono (P := Tryz.prog) (f := 145) hcon ?_
  rintro e w' ⟨rfl, hB⟩
  have e1 : (⟨(Lib.trimLeftS (bs l).data.toList (bs cs).data.toList).toArray⟩ : ByteArray) = bs (l.drop (To.run p l)) := by
    rw [bs_list, bs_list]
    unfold Lib.trimLeftS
    have : (fun x => cs.contains x) = p := funext hc.is
    rw [this, drop_run]; rfl
  rw [e1]
  exact h w' hB

set_option maxHeartbeats 1000000 in
theorem run_t {w : World} {cs : List UInt8} {p : UInt8 → Bool} (hc : Cut cs p) (l : List UInt8) (hl : l.length ≤ 9223372036854775807) {Q : Ending → World → Prop} (h : ∀ w', Below w.heap.size w w' → Q (.returned (.int .i64 (To.run p l : Nat))) w') :
    Calls Tryz.prog 120 #[.string (bs l), .string (bs cs)] w Q := by
  have H := Lib.hid h
  have hr := To.run_le p l
  have hs1 := bs_size l
  have hs2 := bs_size (l.drop (To.run p l))
  rw [List.length_drop] at hs2
  have hr1 : ((l.length - To.run p l : Nat) : Int) = (l.length : Int) - (To.run p l : Int) := by omega
  have hl1 : (l.length : Int) ≤ 9223372036854775807 := by omega
  clear h
  go_enter Tryz.func120, Tryz.ntmps120
  go_wp2_with fail
  refine trim_t hc l fun w' hB => ?_
  have HB := Lib.hid hB
  clear hB
  go_wp2_with fail
  have e : (l.length : Int) - ((l.length : Int) - (To.run p l : Int)) = (To.run p l : Int) := by omega
  have h2 := H.out w' HB.out
  rw [← e] at h2
  exact h2

def letters : List UInt8 := [97, 98, 99, 100, 101, 102, 103, 104, 105, 106, 107, 108, 109, 110, 111, 112, 113, 114, 115, 116, 117, 118, 119, 120, 121, 122, 65, 66, 67, 68, 69, 70, 71, 72, 73, 74, 75, 76, 77, 78, 79, 80, 81, 82, 83, 84, 85, 86, 87, 88, 89, 90]
def digits : List UInt8 := [48, 49, 50, 51, 52, 53, 54, 55, 56, 57]
def blanks : List UInt8 := [32, 9, 10, 13]

theorem cut_of {cs : List UInt8} {p : UInt8 → Bool} (h1 : cs.all (fun b => decide (b.toNat < 128)) = true) (h2 : (List.range 256).all (fun n => cs.contains (UInt8.ofNat n) == p (UInt8.ofNat n)) = true) (h3 : cs.length < 1000) : Cut cs p := by
  refine ⟨fun j b hj => ?_, fun c => ?_, h3⟩
  · have := List.all_eq_true.1 h1 b (List.mem_of_getElem? hj)
    simpa using this
  · have := List.all_eq_true.1 h2 c.toNat (List.mem_range.2 c.toNat_lt)
    simpa using this
set_option maxRecDepth 100000 in
theorem cutL : Cut letters To.isL := cut_of (by decide +kernel) (by decide +kernel) (by decide +kernel)
set_option maxRecDepth 100000 in
theorem cutD : Cut digits To.isD := cut_of (by decide +kernel) (by decide +kernel) (by decide +kernel)
set_option maxRecDepth 100000 in
theorem cutB : Cut blanks To.isB := cut_of (by decide +kernel) (by decide +kernel) (by decide +kernel)
set_option maxRecDepth 100000 in
theorem cutW : Cut (letters ++ digits ++ [95]) To.isW := cut_of (by decide +kernel) (by decide +kernel) (by decide +kernel)

set_option maxHeartbeats 1000000 in
theorem word_t {w : World} (l : List UInt8) (hl : l.length ≤ 9223372036854775807) {Q : Ending → World → Prop} (h : ∀ w', Below w.heap.size w w' → Q (.returned (.int .i64 (To.word l : Nat))) w') :
    Calls Tryz.prog 122 #[.string (bs l)] w Q := by
  have H := Lib.hid h
  clear h
  by_cases h0 : To.run To.isL l = 0
  · have e : To.word l = 0 := by unfold To.word; rw [if_pos h0]
    rw [e] at H
    have HZ := Lib.hid h0
    clear h0 e
    go_enter Tryz.func122, Tryz.ntmps122
    go_wp2_with fail
    refine run_t cutL l hl fun w' hB => ?_
    rw [HZ.out]
    have HB := Lib.hid hB
    clear hB
    go_wp2_with fail
    exact H.out w' HB.out
  · have e : To.word l = To.run To.isW l := by unfold To.word; rw [if_neg h0]
    rw [e] at H
    obtain ⟨n, hn⟩ : ∃ n, n = To.run To.isL l := ⟨_, rfl⟩
    rw [← hn] at h0
    have h1 : ((n : Int) == 0) = false := by simp; omega
    have HN := Lib.hid hn
    clear h0 e hn
    go_enter Tryz.func122, Tryz.ntmps122
    go_wp2_with fail
    refine run_t cutL l hl fun w' hB => ?_
    rw [← HN.out]
    have HB := Lib.hid hB
    clear hB
    go_wp2_with fail
    refine run_t cutW l hl fun w2 hB2 => ?_
    have HB2 := Lib.hid (HB.out.trans (hB2.mono HB.out.size))
    clear hB2
    go_wp2_with fail
    exact H.out w2 HB2.out

set_option maxHeartbeats 1000000 in
theorem number_t {w : World} (l : List UInt8) (hl : l.length ≤ 9223372036854775807) {Q : Ending → World → Prop} (h : ∀ w', Below w.heap.size w w' → Q (.returned (.int .i64 (To.number l : Nat))) w') :
    Calls Tryz.prog 123 #[.string (bs l)] w Q := by
  have H := Lib.hid h
  clear h
  go_enter Tryz.func123, Tryz.ntmps123
  go_wp2_with fail
  refine run_t cutD l hl fun w' hB => ?_
  have HB := Lib.hid hB
  clear hB
  go_wp2_with fail
  exact H.out w' HB.out
end Go.Proofs.YtcldcigopkfmmaaGreatDoor
