/- The walks of pannierkeep.Edit and pannierlaw17.wakes. -/
import Derived.Test.YtlpdanghcdajmaaDoorEp
namespace Go.Proofs.YtlpdanghcdajmaaDoor
open Go.RowKit
theorem keep_Edit (k ar ac fr fc tr tc k' ar' ac' fr' fc' tr' tc' : Int) (s s' : ByteArray) (w : World) :
    Calls Tryd.prog 40 #[.agg #[.int .i64 k, .int .i64 ar, .int .i64 ac, .int .i64 fr, .int .i64 fc, .int .i64 tr, .int .i64 tc, .string s], .agg #[.int .i64 k', .int .i64 ar', .int .i64 ac', .int .i64 fr', .int .i64 fc', .int .i64 tr', .int .i64 tc', .string s']] w fun e w' =>
      e = .returned (.bool (k == k' && (ar == ar' && ac == ac') && ((fr == fr' && fc == fc') && (tr == tr' && tc == tc')) && s.toList == s'.toList)) ∧ Below w.heap.size w w' := by
  go_enter Tryd.func40, Tryd.ntmps40
  go_wp2
  all_goals (go_ret; exact ⟨ret_bool (by simp_all), below_a2 _ _ _⟩)
theorem keep_same (k ar ac fr fc tr tc : Int) (s : ByteArray) (w : World) :
    Calls Tryd.prog 40 #[.agg #[.int .i64 k, .int .i64 ar, .int .i64 ac, .int .i64 fr, .int .i64 fc, .int .i64 tr, .int .i64 tc, .string s], .agg #[.int .i64 k, .int .i64 ar, .int .i64 ac, .int .i64 fr, .int .i64 fc, .int .i64 tr, .int .i64 tc, .string s]] w fun e w' =>
      e = .returned (.bool true) ∧ Below w.heap.size w w' := by
  have h := keep_Edit k ar ac fr fc tr tc k ar ac fr fc tr tc s s w
  simpa only [beq_self_eq_true, Bool.and_self] using h
theorem wakes_enc : encR 2 3 2 0 0 0 0 ⟨#[]⟩ = (⟨#[2, 0, 3, 2]⟩, 0) := by kernel_rfl
theorem wakes_dec : decR ⟨#[1, 0, 5, 1, 0, 2, 61, 49]⟩ = (⟨1, 5, 1, 0, 0, 0, 0, ⟨#[61, 49]⟩, 8, false⟩, 0) := by kernel_rfl
theorem law17_wakes (w : World) (he : EtIs w) : Calls Tryd.prog 33 #[] w fun e w' => e = .returned (.bool true) ∧ Below w.heap.size w w' := by
  have E := edit_Encode 2 3 2 0 0 0 0 ⟨#[]⟩
  rw [wakes_enc] at E
  have E1 := Lib.hid E
  clear E
  have D := edit_Decode ⟨#[1, 0, 5, 1, 0, 2, 61, 49]⟩ (by decide)
  rw [wakes_dec] at D
  have D1 := Lib.hid D
  clear D
  have He := Lib.hid he
  clear he
  go_enter Tryd.func33, Tryd.ntmps33
  go_wp2_with fail
  refine (E1.out _ He.out).mono ?_; rintro e w1 ⟨rfl, hb1⟩
  go_wp2_with fail
  refine (D1.out _ (He.out.below hb1)).mono ?_; rintro e w2 ⟨rfl, hb2⟩
  simp only [Dst.cells]
  go_wp2_with fail
  go_ret
  exact ⟨rfl, bstep (bstep hb1 hb2) (below_a1 _ _)⟩
end Go.Proofs.YtlpdanghcdajmaaDoor
