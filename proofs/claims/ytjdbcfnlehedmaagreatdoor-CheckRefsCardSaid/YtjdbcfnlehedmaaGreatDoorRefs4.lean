/-
  CheckRefs: its rest, where the item is number 3.
-/
import Derived.Test.YtjdbcfnlehedmaaGreatDoorRefs0
namespace Go.Proofs.YtjdbcfnlehedmaaGreatDoor.Av
set_option linter.unusedVariables false
set_option linter.unusedSimpArgs false
set_option maxRecDepth 1000000
open Go
theorem refs_3_0_107 (b : Bool) : Good b 3 0 [107] := by
  intro y0 y1 y2 y26 y27 y29 y30 y33 y34 y35
  cases b <;> kernel_rfl
theorem refs_3_0_120 (b : Bool) : Good b 3 0 [120] := by
  intro y0 y1 y2 y26 y27 y29 y30 y33 y34 y35
  cases b <;> kernel_rfl
theorem refs_3_0_121 (b : Bool) : Good b 3 0 [121] := by
  intro y0 y1 y2 y26 y27 y29 y30 y33 y34 y35
  cases b <;> kernel_rfl
theorem refs_3_0_122 (b : Bool) : Good b 3 0 [122] := by
  intro y0 y1 y2 y26 y27 y29 y30 y33 y34 y35
  cases b <;> kernel_rfl
theorem refs_3_1_107 (b : Bool) : Good b 3 1 [107] := by
  intro y0 y1 y2 y26 y27 y29 y30 y33 y34 y35
  cases b <;> kernel_rfl
theorem refs_3_1_120 (b : Bool) : Good b 3 1 [120] := by
  intro y0 y1 y2 y26 y27 y29 y30 y33 y34 y35
  cases b <;> kernel_rfl
theorem refs_3_1_121 (b : Bool) : Good b 3 1 [121] := by
  intro y0 y1 y2 y26 y27 y29 y30 y33 y34 y35
  cases b <;> kernel_rfl
theorem refs_3_1_122 (b : Bool) : Good b 3 1 [122] := by
  intro y0 y1 y2 y26 y27 y29 y30 y33 y34 y35
  cases b <;> kernel_rfl
theorem refs_3_2_107 (b : Bool) : Good b 3 2 [107] := by
  intro y0 y1 y2 y26 y27 y29 y30 y33 y34 y35
  cases b <;> kernel_rfl
theorem refs_3_2_120 (b : Bool) : Good b 3 2 [120] := by
  intro y0 y1 y2 y26 y27 y29 y30 y33 y34 y35
  cases b <;> kernel_rfl
theorem refs_3_2_121 (b : Bool) : Good b 3 2 [121] := by
  intro y0 y1 y2 y26 y27 y29 y30 y33 y34 y35
  cases b <;> kernel_rfl
theorem refs_3_2_122 (b : Bool) : Good b 3 2 [122] := by
  intro y0 y1 y2 y26 y27 y29 y30 y33 y34 y35
  cases b <;> kernel_rfl
theorem refs_3_3_107 (b : Bool) : Good b 3 3 [107] := by
  intro y0 y1 y2 y26 y27 y29 y30 y33 y34 y35
  cases b <;> kernel_rfl
theorem refs_3_3_120 (b : Bool) : Good b 3 3 [120] := by
  intro y0 y1 y2 y26 y27 y29 y30 y33 y34 y35
  cases b <;> kernel_rfl
theorem refs_3_3_121 (b : Bool) : Good b 3 3 [121] := by
  intro y0 y1 y2 y26 y27 y29 y30 y33 y34 y35
  cases b <;> kernel_rfl
theorem refs_3_3_122 (b : Bool) : Good b 3 3 [122] := by
  intro y0 y1 y2 y26 y27 y29 y30 y33 y34 y35
  cases b <;> kernel_rfl
theorem refs_3_4_107 (b : Bool) : Good b 3 4 [107] := by
  intro y0 y1 y2 y26 y27 y29 y30 y33 y34 y35
  cases b <;> kernel_rfl
theorem refs_3_4_120 (b : Bool) : Good b 3 4 [120] := by
  intro y0 y1 y2 y26 y27 y29 y30 y33 y34 y35
  cases b <;> kernel_rfl
theorem refs_3_4_121 (b : Bool) : Good b 3 4 [121] := by
  intro y0 y1 y2 y26 y27 y29 y30 y33 y34 y35
  cases b <;> kernel_rfl
theorem refs_3_4_122 (b : Bool) : Good b 3 4 [122] := by
  intro y0 y1 y2 y26 y27 y29 y30 y33 y34 y35
  cases b <;> kernel_rfl
theorem refs_3 {r2 : Nat} (h : r2 < 5) {f : List UInt8} (hf : f = [107] ∨ f = [120] ∨ f = [121] ∨ f = [122]) (b : Bool) : Good b 3 r2 f := by
  match r2, h with
  | 0, _ => exact hf.elim (fun e => e ▸ refs_3_0_107 b) fun hf => hf.elim (fun e => e ▸ refs_3_0_120 b) fun hf => hf.elim (fun e => e ▸ refs_3_0_121 b) fun e => e ▸ refs_3_0_122 b
  | 1, _ => exact hf.elim (fun e => e ▸ refs_3_1_107 b) fun hf => hf.elim (fun e => e ▸ refs_3_1_120 b) fun hf => hf.elim (fun e => e ▸ refs_3_1_121 b) fun e => e ▸ refs_3_1_122 b
  | 2, _ => exact hf.elim (fun e => e ▸ refs_3_2_107 b) fun hf => hf.elim (fun e => e ▸ refs_3_2_120 b) fun hf => hf.elim (fun e => e ▸ refs_3_2_121 b) fun e => e ▸ refs_3_2_122 b
  | 3, _ => exact hf.elim (fun e => e ▸ refs_3_3_107 b) fun hf => hf.elim (fun e => e ▸ refs_3_3_120 b) fun hf => hf.elim (fun e => e ▸ refs_3_3_121 b) fun e => e ▸ refs_3_3_122 b
  | 4, _ => exact hf.elim (fun e => e ▸ refs_3_4_107 b) fun hf => hf.elim (fun e => e ▸ refs_3_4_120 b) fun hf => hf.elim (fun e => e ▸ refs_3_4_121 b) fun e => e ▸ refs_3_4_122 b
end Go.Proofs.YtjdbcfnlehedmaaGreatDoor.Av
