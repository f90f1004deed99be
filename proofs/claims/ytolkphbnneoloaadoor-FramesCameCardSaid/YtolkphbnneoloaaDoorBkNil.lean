/- A book: the kinds of lists that it does not hold. -/
import Derived.Test.YtolkphbnneoloaaDoorRows
import Derived.Test.YtolkphbnneoloaaDoorBkMem
namespace Go.Proofs.YtolkphbnneoloaaDoor
open Go.RowKit Go.My

theorem fillByte_nil {w : World} {bp : Nat} {v : Value} (hv : v = .slice none 0 0) (hc : w.cell? ⟨bp, 1, none⟩ = some v) {Q : Ending → World → Prop} (h : Q (.returned (.tuple #[])) w) : Calls Tryd.prog 22 #[.pointer (some ⟨bp, 0, none⟩)] w Q := by
  subst hv
  have H := Lib.hid h
  clear h
  go_enter Tryd.func22, Tryd.ntmps22
  go_wp2
  go_loop [2] (fun i => i = .int .i64 0) (fun _ => 0)
  case atStart => rfl
  case round =>
    obtain rfl := hrel
    go_wp2
    go_end0
    exact H.out

theorem growByte_nil {w : World} {bp : Nat} {v : Value} (hv : v = .slice none 0 0) (hc : w.cell? ⟨bp, 1, none⟩ = some v) {Q : Ending → World → Prop} (h : Q (.returned (.tuple #[])) w) : Calls Tryd.prog 34 #[.pointer (some ⟨bp, 0, none⟩)] w Q := by
  subst hv
  have H := Lib.hid h
  clear h
  go_enter Tryd.func34, Tryd.ntmps34
  go_wp2
  go_loop [2] (fun i => i = .int .i64 0) (fun _ => 0)
  case atStart => rfl
  case round =>
    obtain rfl := hrel
    go_wp2
    go_end0
    exact H.out

theorem lookByte_nil {w : World} {bp : Nat} {v : Value} (hv : v = .slice none 0 0) (hc : w.cell? ⟨bp, 1, none⟩ = some v) : Calls Tryd.prog 46 #[.pointer (some ⟨bp, 0, none⟩)] w fun e w' => e = .returned (.bool true) ∧ w' = w := by
  subst hv
  go_enter Tryd.func46, Tryd.ntmps46
  go_wp2
  go_loop [3] (fun i => i = .int .i64 0) (fun _ => 0)
  case atStart => rfl
  case round =>
    obtain rfl := hrel
    go_wp2
    go_ret
    exact ⟨rfl, rfl⟩

theorem fillLimb_nil {w : World} {bp : Nat} {v : Value} (hv : v = .slice none 0 0) (hc : w.cell? ⟨bp, 2, none⟩ = some v) {Q : Ending → World → Prop} (h : Q (.returned (.tuple #[])) w) : Calls Tryd.prog 23 #[.pointer (some ⟨bp, 0, none⟩)] w Q := by
  subst hv
  have H := Lib.hid h
  clear h
  go_enter Tryd.func23, Tryd.ntmps23
  go_wp2
  go_loop [2] (fun i => i = .int .i64 0) (fun _ => 0)
  case atStart => rfl
  case round =>
    obtain rfl := hrel
    go_wp2
    go_end0
    exact H.out

theorem growLimb_nil {w : World} {bp : Nat} {v : Value} (hv : v = .slice none 0 0) (hc : w.cell? ⟨bp, 2, none⟩ = some v) {Q : Ending → World → Prop} (h : Q (.returned (.tuple #[])) w) : Calls Tryd.prog 35 #[.pointer (some ⟨bp, 0, none⟩)] w Q := by
  subst hv
  have H := Lib.hid h
  clear h
  go_enter Tryd.func35, Tryd.ntmps35
  go_wp2
  go_loop [2] (fun i => i = .int .i64 0) (fun _ => 0)
  case atStart => rfl
  case round =>
    obtain rfl := hrel
    go_wp2
    go_end0
    exact H.out

theorem lookLimb_nil {w : World} {bp : Nat} {v : Value} (hv : v = .slice none 0 0) (hc : w.cell? ⟨bp, 2, none⟩ = some v) : Calls Tryd.prog 47 #[.pointer (some ⟨bp, 0, none⟩)] w fun e w' => e = .returned (.bool true) ∧ w' = w := by
  subst hv
  go_enter Tryd.func47, Tryd.ntmps47
  go_wp2
  go_loop [3] (fun i => i = .int .i64 0) (fun _ => 0)
  case atStart => rfl
  case round =>
    obtain rfl := hrel
    go_wp2
    go_ret
    exact ⟨rfl, rfl⟩

theorem fillText_nil {w : World} {bp : Nat} {v : Value} (hv : v = .slice none 0 0) (hc : w.cell? ⟨bp, 3, none⟩ = some v) {Q : Ending → World → Prop} (h : Q (.returned (.tuple #[])) w) : Calls Tryd.prog 24 #[.pointer (some ⟨bp, 0, none⟩)] w Q := by
  subst hv
  have H := Lib.hid h
  clear h
  go_enter Tryd.func24, Tryd.ntmps24
  go_wp2
  go_loop [2] (fun i => i = .int .i64 0) (fun _ => 0)
  case atStart => rfl
  case round =>
    obtain rfl := hrel
    go_wp2
    go_end0
    exact H.out

theorem growText_nil {w : World} {bp : Nat} {v : Value} (hv : v = .slice none 0 0) (hc : w.cell? ⟨bp, 3, none⟩ = some v) {Q : Ending → World → Prop} (h : Q (.returned (.tuple #[])) w) : Calls Tryd.prog 36 #[.pointer (some ⟨bp, 0, none⟩)] w Q := by
  subst hv
  have H := Lib.hid h
  clear h
  go_enter Tryd.func36, Tryd.ntmps36
  go_wp2
  go_loop [2] (fun i => i = .int .i64 0) (fun _ => 0)
  case atStart => rfl
  case round =>
    obtain rfl := hrel
    go_wp2
    go_end0
    exact H.out

theorem lookText_nil {w : World} {bp : Nat} {v : Value} (hv : v = .slice none 0 0) (hc : w.cell? ⟨bp, 3, none⟩ = some v) : Calls Tryd.prog 48 #[.pointer (some ⟨bp, 0, none⟩)] w fun e w' => e = .returned (.bool true) ∧ w' = w := by
  subst hv
  go_enter Tryd.func48, Tryd.ntmps48
  go_wp2
  go_loop [3] (fun i => i = .int .i64 0) (fun _ => 0)
  case atStart => rfl
  case round =>
    obtain rfl := hrel
    go_wp2
    go_ret
    exact ⟨rfl, rfl⟩

theorem fillToken_nil {w : World} {bp : Nat} {v : Value} (hv : v = .slice none 0 0) (hc : w.cell? ⟨bp, 4, none⟩ = some v) {Q : Ending → World → Prop} (h : Q (.returned (.tuple #[])) w) : Calls Tryd.prog 25 #[.pointer (some ⟨bp, 0, none⟩)] w Q := by
  subst hv
  have H := Lib.hid h
  clear h
  go_enter Tryd.func25, Tryd.ntmps25
  go_wp2
  go_loop [2] (fun i => i = .int .i64 0) (fun _ => 0)
  case atStart => rfl
  case round =>
    obtain rfl := hrel
    go_wp2
    go_end0
    exact H.out

theorem growToken_nil {w : World} {bp : Nat} {v : Value} (hv : v = .slice none 0 0) (hc : w.cell? ⟨bp, 4, none⟩ = some v) {Q : Ending → World → Prop} (h : Q (.returned (.tuple #[])) w) : Calls Tryd.prog 37 #[.pointer (some ⟨bp, 0, none⟩)] w Q := by
  subst hv
  have H := Lib.hid h
  clear h
  go_enter Tryd.func37, Tryd.ntmps37
  go_wp2
  go_loop [2] (fun i => i = .int .i64 0) (fun _ => 0)
  case atStart => rfl
  case round =>
    obtain rfl := hrel
    go_wp2
    go_end0
    exact H.out

theorem lookToken_nil {w : World} {bp : Nat} {v : Value} (hv : v = .slice none 0 0) (hc : w.cell? ⟨bp, 4, none⟩ = some v) : Calls Tryd.prog 49 #[.pointer (some ⟨bp, 0, none⟩)] w fun e w' => e = .returned (.bool true) ∧ w' = w := by
  subst hv
  go_enter Tryd.func49, Tryd.ntmps49
  go_wp2
  go_loop [3] (fun i => i = .int .i64 0) (fun _ => 0)
  case atStart => rfl
  case round =>
    obtain rfl := hrel
    go_wp2
    go_ret
    exact ⟨rfl, rfl⟩

theorem fillNum_nil {w : World} {bp : Nat} {v : Value} (hv : v = .slice none 0 0) (hc : w.cell? ⟨bp, 5, none⟩ = some v) {Q : Ending → World → Prop} (h : Q (.returned (.tuple #[])) w) : Calls Tryd.prog 26 #[.pointer (some ⟨bp, 0, none⟩)] w Q := by
  subst hv
  have H := Lib.hid h
  clear h
  go_enter Tryd.func26, Tryd.ntmps26
  go_wp2
  go_loop [2] (fun i => i = .int .i64 0) (fun _ => 0)
  case atStart => rfl
  case round =>
    obtain rfl := hrel
    go_wp2
    go_end0
    exact H.out

theorem growNum_nil {w : World} {bp : Nat} {v : Value} (hv : v = .slice none 0 0) (hc : w.cell? ⟨bp, 5, none⟩ = some v) {Q : Ending → World → Prop} (h : Q (.returned (.tuple #[])) w) : Calls Tryd.prog 38 #[.pointer (some ⟨bp, 0, none⟩)] w Q := by
  subst hv
  have H := Lib.hid h
  clear h
  go_enter Tryd.func38, Tryd.ntmps38
  go_wp2
  go_loop [2] (fun i => i = .int .i64 0) (fun _ => 0)
  case atStart => rfl
  case round =>
    obtain rfl := hrel
    go_wp2
    go_end0
    exact H.out

theorem lookNum_nil {w : World} {bp : Nat} {v : Value} (hv : v = .slice none 0 0) (hc : w.cell? ⟨bp, 5, none⟩ = some v) : Calls Tryd.prog 50 #[.pointer (some ⟨bp, 0, none⟩)] w fun e w' => e = .returned (.bool true) ∧ w' = w := by
  subst hv
  go_enter Tryd.func50, Tryd.ntmps50
  go_wp2
  go_loop [3] (fun i => i = .int .i64 0) (fun _ => 0)
  case atStart => rfl
  case round =>
    obtain rfl := hrel
    go_wp2
    go_ret
    exact ⟨rfl, rfl⟩

theorem fillTerm_nil {w : World} {bp : Nat} {v : Value} (hv : v = .slice none 0 0) (hc : w.cell? ⟨bp, 6, none⟩ = some v) {Q : Ending → World → Prop} (h : Q (.returned (.tuple #[])) w) : Calls Tryd.prog 27 #[.pointer (some ⟨bp, 0, none⟩)] w Q := by
  subst hv
  have H := Lib.hid h
  clear h
  go_enter Tryd.func27, Tryd.ntmps27
  go_wp2
  go_loop [2] (fun i => i = .int .i64 0) (fun _ => 0)
  case atStart => rfl
  case round =>
    obtain rfl := hrel
    go_wp2
    go_end0
    exact H.out

theorem growTerm_nil {w : World} {bp : Nat} {v : Value} (hv : v = .slice none 0 0) (hc : w.cell? ⟨bp, 6, none⟩ = some v) {Q : Ending → World → Prop} (h : Q (.returned (.tuple #[])) w) : Calls Tryd.prog 39 #[.pointer (some ⟨bp, 0, none⟩)] w Q := by
  subst hv
  have H := Lib.hid h
  clear h
  go_enter Tryd.func39, Tryd.ntmps39
  go_wp2
  go_loop [2] (fun i => i = .int .i64 0) (fun _ => 0)
  case atStart => rfl
  case round =>
    obtain rfl := hrel
    go_wp2
    go_end0
    exact H.out

theorem lookTerm_nil {w : World} {bp : Nat} {v : Value} (hv : v = .slice none 0 0) (hc : w.cell? ⟨bp, 6, none⟩ = some v) : Calls Tryd.prog 51 #[.pointer (some ⟨bp, 0, none⟩)] w fun e w' => e = .returned (.bool true) ∧ w' = w := by
  subst hv
  go_enter Tryd.func51, Tryd.ntmps51
  go_wp2
  go_loop [3] (fun i => i = .int .i64 0) (fun _ => 0)
  case atStart => rfl
  case round =>
    obtain rfl := hrel
    go_wp2
    go_ret
    exact ⟨rfl, rfl⟩

theorem fillFactor_nil {w : World} {bp : Nat} {v : Value} (hv : v = .slice none 0 0) (hc : w.cell? ⟨bp, 7, none⟩ = some v) {Q : Ending → World → Prop} (h : Q (.returned (.tuple #[])) w) : Calls Tryd.prog 28 #[.pointer (some ⟨bp, 0, none⟩)] w Q := by
  subst hv
  have H := Lib.hid h
  clear h
  go_enter Tryd.func28, Tryd.ntmps28
  go_wp2
  go_loop [2] (fun i => i = .int .i64 0) (fun _ => 0)
  case atStart => rfl
  case round =>
    obtain rfl := hrel
    go_wp2
    go_end0
    exact H.out

theorem growFactor_nil {w : World} {bp : Nat} {v : Value} (hv : v = .slice none 0 0) (hc : w.cell? ⟨bp, 7, none⟩ = some v) {Q : Ending → World → Prop} (h : Q (.returned (.tuple #[])) w) : Calls Tryd.prog 40 #[.pointer (some ⟨bp, 0, none⟩)] w Q := by
  subst hv
  have H := Lib.hid h
  clear h
  go_enter Tryd.func40, Tryd.ntmps40
  go_wp2
  go_loop [2] (fun i => i = .int .i64 0) (fun _ => 0)
  case atStart => rfl
  case round =>
    obtain rfl := hrel
    go_wp2
    go_end0
    exact H.out

theorem lookFactor_nil {w : World} {bp : Nat} {v : Value} (hv : v = .slice none 0 0) (hc : w.cell? ⟨bp, 7, none⟩ = some v) : Calls Tryd.prog 52 #[.pointer (some ⟨bp, 0, none⟩)] w fun e w' => e = .returned (.bool true) ∧ w' = w := by
  subst hv
  go_enter Tryd.func52, Tryd.ntmps52
  go_wp2
  go_loop [3] (fun i => i = .int .i64 0) (fun _ => 0)
  case atStart => rfl
  case round =>
    obtain rfl := hrel
    go_wp2
    go_ret
    exact ⟨rfl, rfl⟩

theorem fillNode_nil {w : World} {bp : Nat} {v : Value} (hv : v = .slice none 0 0) (hc : w.cell? ⟨bp, 8, none⟩ = some v) {Q : Ending → World → Prop} (h : Q (.returned (.tuple #[])) w) : Calls Tryd.prog 29 #[.pointer (some ⟨bp, 0, none⟩)] w Q := by
  subst hv
  have H := Lib.hid h
  clear h
  go_enter Tryd.func29, Tryd.ntmps29
  go_wp2
  go_loop [2] (fun i => i = .int .i64 0) (fun _ => 0)
  case atStart => rfl
  case round =>
    obtain rfl := hrel
    go_wp2
    go_end0
    exact H.out

theorem growNode_nil {w : World} {bp : Nat} {v : Value} (hv : v = .slice none 0 0) (hc : w.cell? ⟨bp, 8, none⟩ = some v) {Q : Ending → World → Prop} (h : Q (.returned (.tuple #[])) w) : Calls Tryd.prog 41 #[.pointer (some ⟨bp, 0, none⟩)] w Q := by
  subst hv
  have H := Lib.hid h
  clear h
  go_enter Tryd.func41, Tryd.ntmps41
  go_wp2
  go_loop [2] (fun i => i = .int .i64 0) (fun _ => 0)
  case atStart => rfl
  case round =>
    obtain rfl := hrel
    go_wp2
    go_end0
    exact H.out

theorem lookNode_nil {w : World} {bp : Nat} {v : Value} (hv : v = .slice none 0 0) (hc : w.cell? ⟨bp, 8, none⟩ = some v) : Calls Tryd.prog 53 #[.pointer (some ⟨bp, 0, none⟩)] w fun e w' => e = .returned (.bool true) ∧ w' = w := by
  subst hv
  go_enter Tryd.func53, Tryd.ntmps53
  go_wp2
  go_loop [3] (fun i => i = .int .i64 0) (fun _ => 0)
  case atStart => rfl
  case round =>
    obtain rfl := hrel
    go_wp2
    go_ret
    exact ⟨rfl, rfl⟩

theorem fillFunc_nil {w : World} {bp : Nat} {v : Value} (hv : v = .slice none 0 0) (hc : w.cell? ⟨bp, 9, none⟩ = some v) {Q : Ending → World → Prop} (h : Q (.returned (.tuple #[])) w) : Calls Tryd.prog 30 #[.pointer (some ⟨bp, 0, none⟩)] w Q := by
  subst hv
  have H := Lib.hid h
  clear h
  go_enter Tryd.func30, Tryd.ntmps30
  go_wp2
  go_loop [2] (fun i => i = .int .i64 0) (fun _ => 0)
  case atStart => rfl
  case round =>
    obtain rfl := hrel
    go_wp2
    go_end0
    exact H.out

theorem growFunc_nil {w : World} {bp : Nat} {v : Value} (hv : v = .slice none 0 0) (hc : w.cell? ⟨bp, 9, none⟩ = some v) {Q : Ending → World → Prop} (h : Q (.returned (.tuple #[])) w) : Calls Tryd.prog 42 #[.pointer (some ⟨bp, 0, none⟩)] w Q := by
  subst hv
  have H := Lib.hid h
  clear h
  go_enter Tryd.func42, Tryd.ntmps42
  go_wp2
  go_loop [2] (fun i => i = .int .i64 0) (fun _ => 0)
  case atStart => rfl
  case round =>
    obtain rfl := hrel
    go_wp2
    go_end0
    exact H.out

theorem lookFunc_nil {w : World} {bp : Nat} {v : Value} (hv : v = .slice none 0 0) (hc : w.cell? ⟨bp, 9, none⟩ = some v) : Calls Tryd.prog 54 #[.pointer (some ⟨bp, 0, none⟩)] w fun e w' => e = .returned (.bool true) ∧ w' = w := by
  subst hv
  go_enter Tryd.func54, Tryd.ntmps54
  go_wp2
  go_loop [3] (fun i => i = .int .i64 0) (fun _ => 0)
  case atStart => rfl
  case round =>
    obtain rfl := hrel
    go_wp2
    go_ret
    exact ⟨rfl, rfl⟩

theorem fillValue_nil {w : World} {bp : Nat} {v : Value} (hv : v = .slice none 0 0) (hc : w.cell? ⟨bp, 10, none⟩ = some v) {Q : Ending → World → Prop} (h : Q (.returned (.tuple #[])) w) : Calls Tryd.prog 31 #[.pointer (some ⟨bp, 0, none⟩)] w Q := by
  subst hv
  have H := Lib.hid h
  clear h
  go_enter Tryd.func31, Tryd.ntmps31
  go_wp2
  go_loop [2] (fun i => i = .int .i64 0) (fun _ => 0)
  case atStart => rfl
  case round =>
    obtain rfl := hrel
    go_wp2
    go_end0
    exact H.out

theorem growValue_nil {w : World} {bp : Nat} {v : Value} (hv : v = .slice none 0 0) (hc : w.cell? ⟨bp, 10, none⟩ = some v) {Q : Ending → World → Prop} (h : Q (.returned (.tuple #[])) w) : Calls Tryd.prog 43 #[.pointer (some ⟨bp, 0, none⟩)] w Q := by
  subst hv
  have H := Lib.hid h
  clear h
  go_enter Tryd.func43, Tryd.ntmps43
  go_wp2
  go_loop [2] (fun i => i = .int .i64 0) (fun _ => 0)
  case atStart => rfl
  case round =>
    obtain rfl := hrel
    go_wp2
    go_end0
    exact H.out

theorem lookValue_nil {w : World} {bp : Nat} {v : Value} (hv : v = .slice none 0 0) (hc : w.cell? ⟨bp, 10, none⟩ = some v) : Calls Tryd.prog 55 #[.pointer (some ⟨bp, 0, none⟩)] w fun e w' => e = .returned (.bool true) ∧ w' = w := by
  subst hv
  go_enter Tryd.func55, Tryd.ntmps55
  go_wp2
  go_loop [3] (fun i => i = .int .i64 0) (fun _ => 0)
  case atStart => rfl
  case round =>
    obtain rfl := hrel
    go_wp2
    go_ret
    exact ⟨rfl, rfl⟩

theorem fillInstr_nil {w : World} {bp : Nat} {v : Value} (hv : v = .slice none 0 0) (hc : w.cell? ⟨bp, 11, none⟩ = some v) {Q : Ending → World → Prop} (h : Q (.returned (.tuple #[])) w) : Calls Tryd.prog 32 #[.pointer (some ⟨bp, 0, none⟩)] w Q := by
  subst hv
  have H := Lib.hid h
  clear h
  go_enter Tryd.func32, Tryd.ntmps32
  go_wp2
  go_loop [2] (fun i => i = .int .i64 0) (fun _ => 0)
  case atStart => rfl
  case round =>
    obtain rfl := hrel
    go_wp2
    go_end0
    exact H.out

theorem growInstr_nil {w : World} {bp : Nat} {v : Value} (hv : v = .slice none 0 0) (hc : w.cell? ⟨bp, 11, none⟩ = some v) {Q : Ending → World → Prop} (h : Q (.returned (.tuple #[])) w) : Calls Tryd.prog 44 #[.pointer (some ⟨bp, 0, none⟩)] w Q := by
  subst hv
  have H := Lib.hid h
  clear h
  go_enter Tryd.func44, Tryd.ntmps44
  go_wp2
  go_loop [2] (fun i => i = .int .i64 0) (fun _ => 0)
  case atStart => rfl
  case round =>
    obtain rfl := hrel
    go_wp2
    go_end0
    exact H.out

theorem lookInstr_nil {w : World} {bp : Nat} {v : Value} (hv : v = .slice none 0 0) (hc : w.cell? ⟨bp, 11, none⟩ = some v) : Calls Tryd.prog 56 #[.pointer (some ⟨bp, 0, none⟩)] w fun e w' => e = .returned (.bool true) ∧ w' = w := by
  subst hv
  go_enter Tryd.func56, Tryd.ntmps56
  go_wp2
  go_loop [3] (fun i => i = .int .i64 0) (fun _ => 0)
  case atStart => rfl
  case round =>
    obtain rfl := hrel
    go_wp2
    go_ret
    exact ⟨rfl, rfl⟩

theorem fillChunk_nil {w : World} {bp : Nat} {v : Value} (hv : v = .slice none 0 0) (hc : w.cell? ⟨bp, 12, none⟩ = some v) {Q : Ending → World → Prop} (h : Q (.returned (.tuple #[])) w) : Calls Tryd.prog 33 #[.pointer (some ⟨bp, 0, none⟩)] w Q := by
  subst hv
  have H := Lib.hid h
  clear h
  go_enter Tryd.func33, Tryd.ntmps33
  go_wp2
  go_loop [2] (fun i => i = .int .i64 0) (fun _ => 0)
  case atStart => rfl
  case round =>
    obtain rfl := hrel
    go_wp2
    go_end0
    exact H.out

theorem growChunk_nil {w : World} {bp : Nat} {v : Value} (hv : v = .slice none 0 0) (hc : w.cell? ⟨bp, 12, none⟩ = some v) {Q : Ending → World → Prop} (h : Q (.returned (.tuple #[])) w) : Calls Tryd.prog 45 #[.pointer (some ⟨bp, 0, none⟩)] w Q := by
  subst hv
  have H := Lib.hid h
  clear h
  go_enter Tryd.func45, Tryd.ntmps45
  go_wp2
  go_loop [2] (fun i => i = .int .i64 0) (fun _ => 0)
  case atStart => rfl
  case round =>
    obtain rfl := hrel
    go_wp2
    go_end0
    exact H.out

theorem lookChunk_nil {w : World} {bp : Nat} {v : Value} (hv : v = .slice none 0 0) (hc : w.cell? ⟨bp, 12, none⟩ = some v) : Calls Tryd.prog 57 #[.pointer (some ⟨bp, 0, none⟩)] w fun e w' => e = .returned (.bool true) ∧ w' = w := by
  subst hv
  go_enter Tryd.func57, Tryd.ntmps57
  go_wp2
  go_loop [3] (fun i => i = .int .i64 0) (fun _ => 0)
  case atStart => rfl
  case round =>
    obtain rfl := hrel
    go_wp2
    go_ret
    exact ⟨rfl, rfl⟩

end Go.Proofs.YtolkphbnneoloaaDoor
