/- How an argument of the type api.Edit is opened. -/
import Derived.Test.YtlpdanghcdajmaaDoorOpen
namespace Go.Proofs.YtlpdanghcdajmaaDoor
open Go.ChangeShapes Go.WideShapes Go.RowKit
section
variable {H : Type} {enc : TypeId × Value → H} {W : World} {base : Nat} {sp : Nat → Bool} {held : Bool}
theorem int_cells : Tryd.prog.cellsOf 3 = 1 := by kernel_rfl
theorem str_cells : Tryd.prog.cellsOf 9 = 1 := by kernel_rfl
theorem addr_cells : Tryd.prog.cellsOf 55 = 2 := by kernel_rfl
theorem rect_cells : Tryd.prog.cellsOf 57 = 4 := by kernel_rfl
theorem edit_cells : Tryd.prog.cellsOf 59 = 8 := by kernel_rfl
set_option maxRecDepth 100000 in
theorem open_addrT {m : Nat} {c d : Value} {y : DataW H × List MemPlace} (h : DataW.trod enc Tryd.prog W base sp held m 55 [c, d] = some y) :
    ∃ r q : Int, c = .int .i64 r ∧ d = .int .i64 q := by
  obtain ⟨xs, n, _, _, _, hl, hf⟩ := DataW.trod_struct Tryd.underlying55 h
  match xs, hl with
  | [y0, y1], _ =>
    have h0 := hf 0 _ rfl
    have h1 := hf 1 _ rfl
    simp [int_cells] at h0 h1
    obtain ⟨r, e0, _, _⟩ := DataW.trod_int Tryd.underlying3 h0
    obtain ⟨q, e1, _, _⟩ := DataW.trod_int Tryd.underlying3 h1
    simp at e0 e1
    exact ⟨r, q, e0, e1⟩
set_option maxRecDepth 100000 in
theorem open_edit {r : Reach} {b0 : Nat} {v : Value} {d : DataW H} {p : List MemPlace} (hv : Value.okWide Tryd.prog W r b0 59 v) (h : DataW.Trod enc Tryd.prog W base sp held 59 v d p) :
    ∃ (k ar ac fr fc tr tc : Int) (s : ByteArray), v = .agg #[.int .i64 k, .int .i64 ar, .int .i64 ac, .int .i64 fr, .int .i64 fc, .int .i64 tr, .int .i64 tc, .string s] := by
  unfold Value.okWide at hv
  rw [Tryd.underlying59] at hv
  obtain ⟨cs, rfl, hsz, _⟩ := hv
  rw [edit_cells] at hsz
  obtain ⟨c0, c1, c2, c3, c4, c5, c6, c7, rfl⟩ : ∃ c0 c1 c2 c3 c4 c5 c6 c7, cs = #[c0, c1, c2, c3, c4, c5, c6, c7] := by
    obtain ⟨l⟩ := cs
    match l, hsz with
    | [c0, c1, c2, c3, c4, c5, c6, c7], _ => exact ⟨c0, c1, c2, c3, c4, c5, c6, c7, rfl⟩
  obtain ⟨fuel, hf⟩ := h
  obtain ⟨xs, m, _, _, _, hl, hi⟩ := DataW.trod_struct Tryd.underlying59 hf
  match xs, hl with
  | [y0, y1, y2, y3], _ =>
    have h0 := hi 0 _ rfl
    have h1 := hi 1 _ rfl
    have h2 := hi 2 _ rfl
    have h3 := hi 3 _ rfl
    simp [Value.cells, int_cells, str_cells, addr_cells, rect_cells] at h0 h1 h2 h3
    obtain ⟨k, e0, _, _⟩ := DataW.trod_int Tryd.underlying3 h0
    obtain ⟨s, e3, _, _⟩ := DataW.trod_string Tryd.underlying9 h3
    obtain ⟨ar, ac, rfl, rfl⟩ := open_addrT h1
    obtain ⟨ys, m2, _, _, _, hl2, hj⟩ := DataW.trod_struct Tryd.underlying57 h2
    match ys, hl2 with
    | [z0, z1], _ =>
      have g0 := hj 0 _ rfl
      have g1 := hj 1 _ rfl
      simp [addr_cells] at g0 g1
      obtain ⟨fr, fc, rfl, rfl⟩ := open_addrT g0
      obtain ⟨tr, tc, rfl, rfl⟩ := open_addrT g1
      simp at e0 e3
      subst e0 e3
      exact ⟨k, ar, ac, fr, fc, tr, tc, s, rfl⟩
end
end Go.Proofs.YtlpdanghcdajmaaDoor
