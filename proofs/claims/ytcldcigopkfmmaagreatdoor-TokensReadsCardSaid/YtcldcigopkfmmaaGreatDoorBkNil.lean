/- A book: the kinds of lists that it does not hold. -/
import Derived.Test.YtcldcigopkfmmaaGreatDoorRows
import Derived.Test.YtcldcigopkfmmaaGreatDoorBkMem
namespace Go.Proofs.YtcldcigopkfmmaaGreatDoor
open Go.RowKit Go.My

theorem fillByte_nil {w : World} {bp : Nat} {v : Value} (hv : v = .slice none 0 0) (hc : w.cell? ⟨bp, 1, none⟩ = some v) {Q : Ending → World → Prop} (h : Q (.returned (.tuple #[])) w) : Calls Tryz.prog 20 #[.pointer (some ⟨bp, 0, none⟩)] w Q := by
  subst hv
  have H := Lib.hid h
  clear h
  go_enter Tryz.func20, Tryz.ntmps20
  go_wp2
  go_loop [2] (fun i => i = .int .i64 0) (fun _ => 0)
  case atStart => rfl
  case round =>
    obtain rfl := hrel
    go_wp2
    go_end0
    exact H.out

theorem growByte_nil {w : World} {bp : Nat} {v : Value} (hv : v = .slice none 0 0) (hc : w.cell? ⟨bp, 1, none⟩ = some v) {Q : Ending → World → Prop} (h : Q (.returned (.tuple #[])) w) : Calls Tryz.prog 32 #[.pointer (some ⟨bp, 0, none⟩)] w Q := by
  subst hv
  have H := Lib.hid h
  clear h
  go_enter Tryz.func32, Tryz.ntmps32
  go_wp2
  go_loop [2] (fun i => i = .int .i64 0) (fun _ => 0)
  case atStart => rfl
  case round =>
    obtain rfl := hrel
    go_wp2
    go_end0
    exact H.out

theorem lookByte_nil {w : World} {bp : Nat} {v : Value} (hv : v = .slice none 0 0) (hc : w.cell? ⟨bp, 1, none⟩ = some v) : Calls Tryz.prog 44 #[.pointer (some ⟨bp, 0, none⟩)] w fun e w' => e = .returned (.bool true) ∧ w' = w := by
  subst hv
  go_enter Tryz.func44, Tryz.ntmps44
  go_wp2
  go_loop [3] (fun i => i = .int .i64 0) (fun _ => 0)
  case atStart => rfl
  case round =>
    obtain rfl := hrel
    go_wp2
    go_ret
    exact ⟨rfl, rfl⟩

theorem fillLimb_nil {w : World} {bp : Nat} {v : Value} (hv : v = .slice none 0 0) (hc : w.cell? ⟨bp, 2, none⟩ = some v) {Q : Ending → World → Prop} (h : Q (.returned (.tuple #[])) w) : Calls Tryz.prog 21 #[.pointer (some ⟨bp, 0, none⟩)] w Q := by
  subst hv
  have H := Lib.hid h
  clear h
  go_enter Tryz.func21, Tryz.ntmps21
  go_wp2
  go_loop [2] (fun i => i = .int .i64 0) (fun _ => 0)
  case atStart => rfl
  case round =>
    obtain rfl := hrel
    go_wp2
    go_end0
    exact H.out

theorem growLimb_nil {w : World} {bp : Nat} {v : Value} (hv : v = .slice none 0 0) (hc : w.cell? ⟨bp, 2, none⟩ = some v) {Q : Ending → World → Prop} (h : Q (.returned (.tuple #[])) w) : Calls Tryz.prog 33 #[.pointer (some ⟨bp, 0, none⟩)] w Q := by
  subst hv
  have H := Lib.hid h
  clear h
  go_enter Tryz.func33, Tryz.ntmps33
  go_wp2
  go_loop [2] (fun i => i = .int .i64 0) (fun _ => 0)
  case atStart => rfl
  case round =>
    obtain rfl := hrel
    go_wp2
    go_end0
    exact H.out

theorem lookLimb_nil {w : World} {bp : Nat} {v : Value} (hv : v = .slice none 0 0) (hc : w.cell? ⟨bp, 2, none⟩ = some v) : Calls Tryz.prog 45 #[.pointer (some ⟨bp, 0, none⟩)] w fun e w' => e = .returned (.bool true) ∧ w' = w := by
  subst hv
  go_enter Tryz.func45, Tryz.ntmps45
  go_wp2
  go_loop [3] (fun i => i = .int .i64 0) (fun _ => 0)
  case atStart => rfl
  case round =>
    obtain rfl := hrel
    go_wp2
    go_ret
    exact ⟨rfl, rfl⟩

theorem fillText_nil {w : World} {bp : Nat} {v : Value} (hv : v = .slice none 0 0) (hc : w.cell? ⟨bp, 3, none⟩ = some v) {Q : Ending → World → Prop} (h : Q (.returned (.tuple #[])) w) : Calls Tryz.prog 22 #[.pointer (some ⟨bp, 0, none⟩)] w Q := by
  subst hv
  have H := Lib.hid h
  clear h
  go_enter Tryz.func22, Tryz.ntmps22
  go_wp2
  go_loop [2] (fun i => i = .int .i64 0) (fun _ => 0)
  case atStart => rfl
  case round =>
    obtain rfl := hrel
    go_wp2
    go_end0
    exact H.out

theorem growText_nil {w : World} {bp : Nat} {v : Value} (hv : v = .slice none 0 0) (hc : w.cell? ⟨bp, 3, none⟩ = some v) {Q : Ending → World → Prop} (h : Q (.returned (.tuple #[])) w) : Calls Tryz.prog 34 #[.pointer (some ⟨bp, 0, none⟩)] w Q := by
  subst hv
  have H := Lib.hid h
  clear h
  go_enter Tryz.func34, Tryz.ntmps34
  go_wp2
  go_loop [2] (fun i => i = .int .i64 0) (fun _ => 0)
  case atStart => rfl
  case round =>
    obtain rfl := hrel
    go_wp2
    go_end0
    exact H.out

theorem lookText_nil {w : World} {bp : Nat} {v : Value} (hv : v = .slice none 0 0) (hc : w.cell? ⟨bp, 3, none⟩ = some v) : Calls Tryz.prog 46 #[.pointer (some ⟨bp, 0, none⟩)] w fun e w' => e = .returned (.bool true) ∧ w' = w := by
  subst hv
  go_enter Tryz.func46, Tryz.ntmps46
  go_wp2
  go_loop [3] (fun i => i = .int .i64 0) (fun _ => 0)
  case atStart => rfl
  case round =>
    obtain rfl := hrel
    go_wp2
    go_ret
    exact ⟨rfl, rfl⟩

theorem fillToken_nil {w : World} {bp : Nat} {v : Value} (hv : v = .slice none 0 0) (hc : w.cell? ⟨bp, 4, none⟩ = some v) {Q : Ending → World → Prop} (h : Q (.returned (.tuple #[])) w) : Calls Tryz.prog 23 #[.pointer (some ⟨bp, 0, none⟩)] w Q := by
  subst hv
  have H := Lib.hid h
  clear h
  go_enter Tryz.func23, Tryz.ntmps23
  go_wp2
  go_loop [2] (fun i => i = .int .i64 0) (fun _ => 0)
  case atStart => rfl
  case round =>
    obtain rfl := hrel
    go_wp2
    go_end0
    exact H.out

theorem growToken_nil {w : World} {bp : Nat} {v : Value} (hv : v = .slice none 0 0) (hc : w.cell? ⟨bp, 4, none⟩ = some v) {Q : Ending → World → Prop} (h : Q (.returned (.tuple #[])) w) : Calls Tryz.prog 35 #[.pointer (some ⟨bp, 0, none⟩)] w Q := by
  subst hv
  have H := Lib.hid h
  clear h
  go_enter Tryz.func35, Tryz.ntmps35
  go_wp2
  go_loop [2] (fun i => i = .int .i64 0) (fun _ => 0)
  case atStart => rfl
  case round =>
    obtain rfl := hrel
    go_wp2
    go_end0
    exact H.out

theorem lookToken_nil {w : World} {bp : Nat} {v : Value} (hv : v = .slice none 0 0) (hc : w.cell? ⟨bp, 4, none⟩ = some v) : Calls Tryz.prog 47 #[.pointer (some ⟨bp, 0, none⟩)] w fun e w' => e = .returned (.bool true) ∧ w' = w := by
  subst hv
  go_enter Tryz.func47, Tryz.ntmps47
  go_wp2
  go_loop [3] (fun i => i = .int .i64 0) (fun _ => 0)
  case atStart => rfl
  case round =>
    obtain rfl := hrel
    go_wp2
    go_ret
    exact ⟨rfl, rfl⟩

theorem fillNum_nil {w : World} {bp : Nat} {v : Value} (hv : v = .slice none 0 0) (hc : w.cell? ⟨bp, 5, none⟩ = some v) {Q : Ending → World → Prop} (h : Q (.returned (.tuple #[])) w) : Calls Tryz.prog 24 #[.pointer (some ⟨bp, 0, none⟩)] w Q := by
  subst hv
  have H := Lib.hid h
  clear h
  go_enter Tryz.func24, Tryz.ntmps24
  go_wp2
  go_loop [2] (fun i => i = .int .i64 0) (fun _ => 0)
  case atStart => rfl
  case round =>
    obtain rfl := hrel
    go_wp2
    go_end0
    exact H.out

theorem growNum_nil {w : World} {bp : Nat} {v : Value} (hv : v = .slice none 0 0) (hc : w.cell? ⟨bp, 5, none⟩ = some v) {Q : Ending → World → Prop} (h : Q (.returned (.tuple #[])) w) : Calls Tryz.prog 36 #[.pointer (some ⟨bp, 0, none⟩)] w Q := by
  subst hv
  have H := Lib.hid h
  clear h
  go_enter Tryz.func36, Tryz.ntmps36
  go_wp2
  go_loop [2] (fun i => i = .int .i64 0) (fun _ => 0)
  case atStart => rfl
  case round =>
    obtain rfl := hrel
    go_wp2
    go_end0
    exact H.out

theorem lookNum_nil {w : World} {bp : Nat} {v : Value} (hv : v = .slice none 0 0) (hc : w.cell? ⟨bp, 5, none⟩ = some v) : Calls Tryz.prog 48 #[.pointer (some ⟨bp, 0, none⟩)] w fun e w' => e = .returned (.bool true) ∧ w' = w := by
  subst hv
  go_enter Tryz.func48, Tryz.ntmps48
  go_wp2
  go_loop [3] (fun i => i = .int .i64 0) (fun _ => 0)
  case atStart => rfl
  case round =>
    obtain rfl := hrel
    go_wp2
    go_ret
    exact ⟨rfl, rfl⟩

theorem fillTerm_nil {w : World} {bp : Nat} {v : Value} (hv : v = .slice none 0 0) (hc : w.cell? ⟨bp, 6, none⟩ = some v) {Q : Ending → World → Prop} (h : Q (.returned (.tuple #[])) w) : Calls Tryz.prog 25 #[.pointer (some ⟨bp, 0, none⟩)] w Q := by
  subst hv
  have H := Lib.hid h
  clear h
  go_enter Tryz.func25, Tryz.ntmps25
  go_wp2
  go_loop [2] (fun i => i = .int .i64 0) (fun _ => 0)
  case atStart => rfl
  case round =>
    obtain rfl := hrel
    go_wp2
    go_end0
    exact H.out

theorem growTerm_nil {w : World} {bp : Nat} {v : Value} (hv : v = .slice none 0 0) (hc : w.cell? ⟨bp, 6, none⟩ = some v) {Q : Ending → World → Prop} (h : Q (.returned (.tuple #[])) w) : Calls Tryz.prog 37 #[.pointer (some ⟨bp, 0, none⟩)] w Q := by
  subst hv
  have H := Lib.hid h
  clear h
  go_enter Tryz.func37, Tryz.ntmps37
  go_wp2
  go_loop [2] (fun i => i = .int .i64 0) (fun _ => 0)
  case atStart => rfl
  case round =>
    obtain rfl := hrel
    go_wp2
    go_end0
    exact H.out

theorem lookTerm_nil {w : World} {bp : Nat} {v : Value} (hv : v = .slice none 0 0) (hc : w.cell? ⟨bp, 6, none⟩ = some v) : Calls Tryz.prog 49 #[.pointer (some ⟨bp, 0, none⟩)] w fun e w' => e = .returned (.bool true) ∧ w' = w := by
  subst hv
  go_enter Tryz.func49, Tryz.ntmps49
  go_wp2
  go_loop [3] (fun i => i = .int .i64 0) (fun _ => 0)
  case atStart => rfl
  case round =>
    obtain rfl := hrel
    go_wp2
    go_ret
    exact ⟨rfl, rfl⟩

theorem fillFactor_nil {w : World} {bp : Nat} {v : Value} (hv : v = .slice none 0 0) (hc : w.cell? ⟨bp, 7, none⟩ = some v) {Q : Ending → World → Prop} (h : Q (.returned (.tuple #[])) w) : Calls Tryz.prog 26 #[.pointer (some ⟨bp, 0, none⟩)] w Q := by
  subst hv
  have H := Lib.hid h
  clear h
  go_enter Tryz.func26, Tryz.ntmps26
  go_wp2
  go_loop [2] (fun i => i = .int .i64 0) (fun _ => 0)
  case atStart => rfl
  case round =>
    obtain rfl := hrel
    go_wp2
    go_end0
    exact H.out

theorem growFactor_nil {w : World} {bp : Nat} {v : Value} (hv : v = .slice none 0 0) (hc : w.cell? ⟨bp, 7, none⟩ = some v) {Q : Ending → World → Prop} (h : Q (.returned (.tuple #[])) w) : Calls Tryz.prog 38 #[.pointer (some ⟨bp, 0, none⟩)] w Q := by
  subst hv
  have H := Lib.hid h
  clear h
  go_enter Tryz.func38, Tryz.ntmps38
  go_wp2
  go_loop [2] (fun i => i = .int .i64 0) (fun _ => 0)
  case atStart => rfl
  case round =>
    obtain rfl := hrel
    go_wp2
    go_end0
    exact H.out

theorem lookFactor_nil {w : World} {bp : Nat} {v : Value} (hv : v = .slice none 0 0) (hc : w.cell? ⟨bp, 7, none⟩ = some v) : Calls Tryz.prog 50 #[.pointer (some ⟨bp, 0, none⟩)] w fun e w' => e = .returned (.bool true) ∧ w' = w := by
  subst hv
  go_enter Tryz.func50, Tryz.ntmps50
  go_wp2
  go_loop [3] (fun i => i = .int .i64 0) (fun _ => 0)
  case atStart => rfl
  case round =>
    obtain rfl := hrel
    go_wp2
    go_ret
    exact ⟨rfl, rfl⟩

theorem fillNode_nil {w : World} {bp : Nat} {v : Value} (hv : v = .slice none 0 0) (hc : w.cell? ⟨bp, 8, none⟩ = some v) {Q : Ending → World → Prop} (h : Q (.returned (.tuple #[])) w) : Calls Tryz.prog 27 #[.pointer (some ⟨bp, 0, none⟩)] w Q := by
  subst hv
  have H := Lib.hid h
  clear h
  go_enter Tryz.func27, Tryz.ntmps27
  go_wp2
  go_loop [2] (fun i => i = .int .i64 0) (fun _ => 0)
  case atStart => rfl
  case round =>
    obtain rfl := hrel
    go_wp2
    go_end0
    exact H.out

theorem growNode_nil {w : World} {bp : Nat} {v : Value} (hv : v = .slice none 0 0) (hc : w.cell? ⟨bp, 8, none⟩ = some v) {Q : Ending → World → Prop} (h : Q (.returned (.tuple #[])) w) : Calls Tryz.prog 39 #[.pointer (some ⟨bp, 0, none⟩)] w Q := by
  subst hv
  have H := Lib.hid h
  clear h
  go_enter Tryz.func39, Tryz.ntmps39
  go_wp2
  go_loop [2] (fun i => i = .int .i64 0) (fun _ => 0)
  case atStart => rfl
  case round =>
    obtain rfl := hrel
    go_wp2
    go_end0
    exact H.out

theorem lookNode_nil {w : World} {bp : Nat} {v : Value} (hv : v = .slice none 0 0) (hc : w.cell? ⟨bp, 8, none⟩ = some v) : Calls Tryz.prog 51 #[.pointer (some ⟨bp, 0, none⟩)] w fun e w' => e = .returned (.bool true) ∧ w' = w := by
  subst hv
  go_enter Tryz.func51, Tryz.ntmps51
  go_wp2
  go_loop [3] (fun i => i = .int .i64 0) (fun _ => 0)
  case atStart => rfl
  case round =>
    obtain rfl := hrel
    go_wp2
    go_ret
    exact ⟨rfl, rfl⟩

theorem fillFunc_nil {w : World} {bp : Nat} {v : Value} (hv : v = .slice none 0 0) (hc : w.cell? ⟨bp, 9, none⟩ = some v) {Q : Ending → World → Prop} (h : Q (.returned (.tuple #[])) w) : Calls Tryz.prog 28 #[.pointer (some ⟨bp, 0, none⟩)] w Q := by
  subst hv
  have H := Lib.hid h
  clear h
  go_enter Tryz.func28, Tryz.ntmps28
  go_wp2
  go_loop [2] (fun i => i = .int .i64 0) (fun _ => 0)
  case atStart => rfl
  case round =>
    obtain rfl := hrel
    go_wp2
    go_end0
    exact H.out

theorem growFunc_nil {w : World} {bp : Nat} {v : Value} (hv : v = .slice none 0 0) (hc : w.cell? ⟨bp, 9, none⟩ = some v) {Q : Ending → World → Prop} (h : Q (.returned (.tuple #[])) w) : Calls Tryz.prog 40 #[.pointer (some ⟨bp, 0, none⟩)] w Q := by
  subst hv
  have H := Lib.hid h
  clear h
  go_enter Tryz.func40, Tryz.ntmps40
  go_wp2
  go_loop [2] (fun i => i = .int .i64 0) (fun _ => 0)
  case atStart => rfl
  case round =>
    obtain rfl := hrel
    go_wp2
    go_end0
    exact H.out

theorem lookFunc_nil {w : World} {bp : Nat} {v : Value} (hv : v = .slice none 0 0) (hc : w.cell? ⟨bp, 9, none⟩ = some v) : Calls Tryz.prog 52 #[.pointer (some ⟨bp, 0, none⟩)] w fun e w' => e = .returned (.bool true) ∧ w' = w := by
  subst hv
  go_enter Tryz.func52, Tryz.ntmps52
  go_wp2
  go_loop [3] (fun i => i = .int .i64 0) (fun _ => 0)
  case atStart => rfl
  case round =>
    obtain rfl := hrel
    go_wp2
    go_ret
    exact ⟨rfl, rfl⟩

theorem fillValue_nil {w : World} {bp : Nat} {v : Value} (hv : v = .slice none 0 0) (hc : w.cell? ⟨bp, 10, none⟩ = some v) {Q : Ending → World → Prop} (h : Q (.returned (.tuple #[])) w) : Calls Tryz.prog 29 #[.pointer (some ⟨bp, 0, none⟩)] w Q := by
  subst hv
  have H := Lib.hid h
  clear h
  go_enter Tryz.func29, Tryz.ntmps29
  go_wp2
  go_loop [2] (fun i => i = .int .i64 0) (fun _ => 0)
  case atStart => rfl
  case round =>
    obtain rfl := hrel
    go_wp2
    go_end0
    exact H.out

theorem growValue_nil {w : World} {bp : Nat} {v : Value} (hv : v = .slice none 0 0) (hc : w.cell? ⟨bp, 10, none⟩ = some v) {Q : Ending → World → Prop} (h : Q (.returned (.tuple #[])) w) : Calls Tryz.prog 41 #[.pointer (some ⟨bp, 0, none⟩)] w Q := by
  subst hv
  have H := Lib.hid h
  clear h
  go_enter Tryz.func41, Tryz.ntmps41
  go_wp2
  go_loop [2] (fun i => i = .int .i64 0) (fun _ => 0)
  case atStart => rfl
  case round =>
    obtain rfl := hrel
    go_wp2
    go_end0
    exact H.out

theorem lookValue_nil {w : World} {bp : Nat} {v : Value} (hv : v = .slice none 0 0) (hc : w.cell? ⟨bp, 10, none⟩ = some v) : Calls Tryz.prog 53 #[.pointer (some ⟨bp, 0, none⟩)] w fun e w' => e = .returned (.bool true) ∧ w' = w := by
  subst hv
  go_enter Tryz.func53, Tryz.ntmps53
  go_wp2
  go_loop [3] (fun i => i = .int .i64 0) (fun _ => 0)
  case atStart => rfl
  case round =>
    obtain rfl := hrel
    go_wp2
    go_ret
    exact ⟨rfl, rfl⟩

theorem fillInstr_nil {w : World} {bp : Nat} {v : Value} (hv : v = .slice none 0 0) (hc : w.cell? ⟨bp, 11, none⟩ = some v) {Q : Ending → World → Prop} (h : Q (.returned (.tuple #[])) w) : Calls Tryz.prog 30 #[.pointer (some ⟨bp, 0, none⟩)] w Q := by
  subst hv
  have H := Lib.hid h
  clear h
  go_enter Tryz.func30, Tryz.ntmps30
  go_wp2
  go_loop [2] (fun i => i = .int .i64 0) (fun _ => 0)
  case atStart => rfl
  case round =>
    obtain rfl := hrel
    go_wp2
    go_end0
    exact H.out

theorem growInstr_nil {w : World} {bp : Nat} {v : Value} (hv : v = .slice none 0 0) (hc : w.cell? ⟨bp, 11, none⟩ = some v) {Q : Ending → World → Prop} (h : Q (.returned (.tuple #[])) w) : Calls Tryz.prog 42 #[.pointer (some ⟨bp, 0, none⟩)] w Q := by
  subst hv
  have H := Lib.hid h
  clear h
  go_enter Tryz.func42, Tryz.ntmps42
  go_wp2
  go_loop [2] (fun i => i = .int .i64 0) (fun _ => 0)
  case atStart => rfl
  case round =>
    obtain rfl := hrel
    go_wp2
    go_end0
    exact H.out

theorem lookInstr_nil {w : World} {bp : Nat} {v : Value} (hv : v = .slice none 0 0) (hc : w.cell? ⟨bp, 11, none⟩ = some v) : Calls Tryz.prog 54 #[.pointer (some ⟨bp, 0, none⟩)] w fun e w' => e = .returned (.bool true) ∧ w' = w := by
  subst hv
  go_enter Tryz.func54, Tryz.ntmps54
  go_wp2
  go_loop [3] (fun i => i = .int .i64 0) (fun _ => 0)
  case atStart => rfl
  case round =>
    obtain rfl := hrel
    go_wp2
    go_ret
    exact ⟨rfl, rfl⟩

theorem fillChunk_nil {w : World} {bp : Nat} {v : Value} (hv : v = .slice none 0 0) (hc : w.cell? ⟨bp, 12, none⟩ = some v) {Q : Ending → World → Prop} (h : Q (.returned (.tuple #[])) w) : Calls Tryz.prog 31 #[.pointer (some ⟨bp, 0, none⟩)] w Q := by
  subst hv
  have H := Lib.hid h
  clear h
  go_enter Tryz.func31, Tryz.ntmps31
  go_wp2
  go_loop [2] (fun i => i = .int .i64 0) (fun _ => 0)
  case atStart => rfl
  case round =>
    obtain rfl := hrel
    go_wp2
    go_end0
    exact H.out

theorem growChunk_nil {w : World} {bp : Nat} {v : Value} (hv : v = .slice none 0 0) (hc : w.cell? ⟨bp, 12, none⟩ = some v) {Q : Ending → World → Prop} (h : Q (.returned (.tuple #[])) w) : Calls Tryz.prog 43 #[.pointer (some ⟨bp, 0, none⟩)] w Q := by
  subst hv
  have H := Lib.hid h
  clear h
  go_enter Tryz.func43, Tryz.ntmps43
  go_wp2
  go_loop [2] (fun i => i = .int .i64 0) (fun _ => 0)
  case atStart => rfl
  case round =>
    obtain rfl := hrel
    go_wp2
    go_end0
    exact H.out

theorem lookChunk_nil {w : World} {bp : Nat} {v : Value} (hv : v = .slice none 0 0) (hc : w.cell? ⟨bp, 12, none⟩ = some v) : Calls Tryz.prog 55 #[.pointer (some ⟨bp, 0, none⟩)] w fun e w' => e = .returned (.bool true) ∧ w' = w := by
  subst hv
  go_enter Tryz.func55, Tryz.ntmps55
  go_wp2
  go_loop [3] (fun i => i = .int .i64 0) (fun _ => 0)
  case atStart => rfl
  case round =>
    obtain rfl := hrel
    go_wp2
    go_ret
    exact ⟨rfl, rfl⟩

end Go.Proofs.YtcldcigopkfmmaaGreatDoor
