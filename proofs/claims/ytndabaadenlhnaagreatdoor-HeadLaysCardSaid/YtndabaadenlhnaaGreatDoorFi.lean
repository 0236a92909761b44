/- Frames (layer 18): Read. -/
import Derived.Test.YtndabaadenlhnaaGreatDoorFh
namespace Go.Proofs.YtndabaadenlhnaaGreatDoor
open Go.RowKit
/-- What Read hands back. -/
def ReadQ (o : Option (List UInt8 × Int × Nat)) (e : Ending) : Prop :=
  match o with
  | some (s, n, k) => e = .returned (.tuple #[.string (ofL s), .int .u32 n, .int .i64 (k : Int), .bool true])
  | none => e = .returned (.tuple #[.string ⟨#[]⟩, .int .u32 0, .int .i64 0, .bool false])
theorem readF_some {L : List ByteArray} {s : List UInt8} {n : Int} {k : Nat} (h : readF (LL L) = some (s, n, k)) : ∃ x L', L = x :: L' ∧ n = numF x.data.toList := by
  cases L with
  | nil => cases h
  | cons x L =>
    refine ⟨x, L, rfl, ?_⟩
    have h' : readF (x.data.toList :: LL L) = some (s, n, k) := h
    unfold readF at h'
    dsimp only at h'
    split at h'
    · cases h'
    · split at h'
      · rw [Option.map_eq_some_iff] at h'
        obtain ⟨t, _, e⟩ := h'
        injection e with _ e2
        injection e2 with e3 _
        exact e3.symm
      · cases h'
set_option maxRecDepth 100000 in
set_option maxHeartbeats 4000000 in
theorem frame_Read (v : Value) (L : List ByteArray) (hL : L.length < 9223372036854775807) (a0 a1 a2 : Addr) (w : World) (hw : FrW w a0 a1 a2) (hv : SlStrs w v L) :
    Calls Tryz.prog 37 #[v] w fun e w' => ReadQ (readF (LL L)) e ∧ Below w.heap.size w w' := by
  have RD := Lib.hid (frame_read v L hL a0 a1 a2 w hw hv)
  have HW := Lib.hid hw
  have HV := Lib.hid hv
  clear hw hv hL
  cases hR : readF (LL L) with
  | none =>
    rw [hR] at RD
    clear hR
    have HN : Hid (∀ W W' : World, Below W.heap.size W W' → ReadQ none (.returned (.tuple #[.string ⟨#[]⟩, .int .u32 0, .int .i64 0, .bool false])) ∧ Below W.heap.size W W') := fun W W' h => ⟨rfl, h⟩
    go_enter Tryz.func37, Tryz.ntmps37
    go_wp2_with fail
    refine RD.out.mono ?_; rintro e w1 ⟨⟨m, a, ha, rfl⟩, hb1⟩
    have W1 := Lib.hid (HW.out.below hb1)
    have B1 := Lib.hid hb1
    clear hb1
    have c0 := W1.out.v0
    have c1 := W1.out.v1
    have c2 := W1.out.v2
    obtain ⟨d0, t0, b0⟩ := W1.out.b0
    obtain ⟨d1, t1, b1⟩ := W1.out.b1
    obtain ⟨d2, t2, b2⟩ := W1.out.b2
    have I0 := Lib.hid b0; have I1 := Lib.hid b1; have I2 := Lib.hid b2
    clear b0 b1 b2
    by_cases h0 : a = a0
    · subst h0
      clear ha
      go_wp2_with fail
      refine (is_same _ _).mono ?_; rintro e w2 ⟨rfl, rfl⟩
      go_wp2_with fail
      refine bodyPost_ret (v := .tuple #[.string ⟨#[]⟩, .int .u32 0, .int .i64 0, .bool false]) (by simp [results, Tryz.results37, go_sem]) rfl (HN.out _ _ B1.out)
    by_cases h1 : a = a1
    · subst h1
      clear ha
      have H0 := Lib.hid h0
      clear h0
      go_wp2_with fail
      refine (is_other _ _ _ _ _ _ _ H0.out I1.out I0.out).mono ?_; rintro e w2 ⟨rfl, rfl⟩
      go_wp2_with fail
      refine (is_same _ _).mono ?_; rintro e w2 ⟨rfl, rfl⟩
      go_wp2_with fail
      refine bodyPost_ret (v := .tuple #[.string ⟨#[]⟩, .int .u32 0, .int .i64 0, .bool false]) (by simp [results, Tryz.results37, go_sem]) rfl (HN.out _ _ B1.out)
    obtain rfl : a = a2 := by
      rcases ha with h | h | h
      · exact absurd h h0
      · exact absurd h h1
      · exact h
    have H0 := Lib.hid h0; have H1 := Lib.hid h1
    clear ha h0 h1
    go_wp2_with fail
    refine (is_other _ _ _ _ _ _ _ H0.out I2.out I0.out).mono ?_; rintro e w2 ⟨rfl, rfl⟩
    go_wp2_with fail
    refine (is_other _ _ _ _ _ _ _ H1.out I2.out I1.out).mono ?_; rintro e w2 ⟨rfl, rfl⟩
    go_wp2_with fail
    refine (is_same _ _).mono ?_; rintro e w2 ⟨rfl, rfl⟩
    go_wp2_with fail
    refine bodyPost_ret (v := .tuple #[.string ⟨#[]⟩, .int .u32 0, .int .i64 0, .bool false]) (by simp [results, Tryz.results37, go_sem]) rfl (HN.out _ _ B1.out)
  | some r =>
    obtain ⟨s, n, k⟩ := r
    rw [hR] at RD
    obtain ⟨x, L', rfl, hn⟩ := readF_some hR
    obtain ⟨p, cp, rfl, hcp⟩ := HV.out.form
    obtain ⟨b, off, rfl, hS⟩ := HV.out.at (k := 0) (by simp)
    obtain ⟨q, hq⟩ : ∃ q, q = (x :: L').length := ⟨_, rfl⟩
    rw [← hq] at RD ⊢
    have i0 : (0 : Int) < (q : Int) := by rw [hq]; simp
    have c0 : w.cell? ⟨b, off, none⟩ = some (.string x) := hS.at' 0 (by simp)
    have C0 := Lib.hid c0
    have NB := Lib.hid (fun W => frame_Num x W)
    rw [← hn] at NB
    have HN : Hid (∀ W W' : World, Below W.heap.size W W' → ReadQ (some (s, n, k)) (.returned (.tuple #[.string (ofL s), .int .u32 n, .int .i64 (k : Int), .bool true])) ∧ Below W.heap.size W W') := fun W W' h => ⟨rfl, h⟩
    clear hR hn hS hcp HV hq c0
    go_enter Tryz.func37, Tryz.ntmps37
    go_wp2_with fail
    refine RD.out.mono ?_; rintro e w1 ⟨he, hb1⟩
    obtain rfl : e = _ := he
    have W1 := Lib.hid (HW.out.below hb1)
    have B1 := Lib.hid hb1
    have cc := cell_below C0.out hb1
    clear hb1
    have c0 := W1.out.v0
    have c1 := W1.out.v1
    have c2 := W1.out.v2
    go_wp2_with fail
    refine (is_nil _ _).mono ?_; rintro e w2 ⟨rfl, rfl⟩
    go_wp2_with fail
    refine (is_nil _ _).mono ?_; rintro e w2 ⟨rfl, rfl⟩
    go_wp2_with fail
    refine (is_nil _ _).mono ?_; rintro e w2 ⟨rfl, rfl⟩
    go_wp2_with fail
    refine (NB.out _).mono ?_; rintro e w2 ⟨rfl, hb2⟩
    have B2 := Lib.hid (bstep B1.out hb2)
    clear hb2
    go_wp2_with fail
    refine bodyPost_ret (v := .tuple #[.string (ofL s), .int .u32 n, .int .i64 (k : Int), .bool true]) (by simp [results, Tryz.results37, go_sem]) rfl (HN.out _ _ B2.out)
end Go.Proofs.YtndabaadenlhnaaGreatDoor
