/- Layer 23: Own: the document's node. -/
import Derived.Test.YtlpdanghcdajmaaDoorOa
namespace Go.Proofs.YtlpdanghcdajmaaDoor
open Go.RowKit
theorem own_w0 (w : World) (n : Nd) (p1 p2 p3 : Option Addr) (c1 c2 c3 : Nat) (h : NdAt w (.slice p1 n.I.length c1) (.slice p2 n.K.length c2) (.slice p3 n.D.length c3) n) :
    ∃ w0, (w.alloc (.cells #[.bool n.lf, .slice p1 n.I.length c1, .slice p2 n.K.length c2, .slice p3 n.D.length c3] 73)).alloc (.cells #[.bool false, .slice none 0 0, .slice none 0 0, .slice none 0 0] 77) = w0 ∧
      w0.heap[w.heap.size]? = some (.cells #[.bool n.lf, .slice p1 n.I.length c1, .slice p2 n.K.length c2, .slice p3 n.D.length c3] 73 (0, 0)) ∧
      w0.heap[w.heap.size + 1]? = some (.cells #[.bool false, .slice none 0 0, .slice none 0 0, .slice none 0 0] 77 (0, 0)) ∧
      NdAt w0 (.slice p1 n.I.length c1) (.slice p2 n.K.length c2) (.slice p3 n.D.length c3) n ∧ Below w.heap.size w w0 ∧ w0.heap.size = w.heap.size + 2 := by
  have hb : Below w.heap.size w ((w.alloc (.cells #[.bool n.lf, .slice p1 n.I.length c1, .slice p2 n.K.length c2, .slice p3 n.D.length c3] 73)).alloc (.cells #[.bool false, .slice none 0 0, .slice none 0 0, .slice none 0 0] 77)) := (bal (bal ⟨Below.refl _ _, Nat.le_refl _⟩ _) _).1
  refine ⟨_, rfl, blk_alloc (blk_new _ _), ?_, h.below hb, hb, by simp⟩
  have h := blk_new (w.alloc (.cells #[.bool n.lf, .slice p1 n.I.length c1, .slice p2 n.K.length c2, .slice p3 n.D.length c3] 73)) (.cells #[.bool false, .slice none 0 0, .slice none 0 0, .slice none 0 0] 77)
  simpa using h
/-- The node's block is made last, the rows lie there already. -/
theorem own_a {w0 x : World} {lf : Bool} {n : Nd} {gK cK gD cD : Nat} (hK : SlInts .u32 x (.slice (some ⟨gK, 0, none⟩) n.K.length cK) n.K) (hD : SlInts .i64 x (.slice (some ⟨gD, 0, none⟩) n.D.length cD) n.D)
    (hb : Below w0.heap.size w0 x ∧ w0.heap.size ≤ x.heap.size) :
    ∃ g' pK cK' pD cD', Value.pointer (some ⟨x.heap.size, 0, none⟩) = .pointer (some ⟨g', 0, none⟩) ∧ w0.heap.size ≤ g' ∧ (x.alloc (.cells #[.bool lf, .slice none 0 0, .slice (some ⟨gK, 0, none⟩) n.K.length cK, .slice (some ⟨gD, 0, none⟩) n.D.length cD] 77)).heap[g']? = some (.cells #[.bool lf, .slice none 0 0, .slice pK n.K.length cK', .slice pD n.D.length cD'] 77 (0, 0)) ∧ SlInts .u32 (x.alloc (.cells #[.bool lf, .slice none 0 0, .slice (some ⟨gK, 0, none⟩) n.K.length cK, .slice (some ⟨gD, 0, none⟩) n.D.length cD] 77)) (.slice pK n.K.length cK') n.K ∧ SlInts .i64 (x.alloc (.cells #[.bool lf, .slice none 0 0, .slice (some ⟨gK, 0, none⟩) n.K.length cK, .slice (some ⟨gD, 0, none⟩) n.D.length cD] 77)) (.slice pD n.D.length cD') n.D ∧ Below w0.heap.size w0 (x.alloc (.cells #[.bool lf, .slice none 0 0, .slice (some ⟨gK, 0, none⟩) n.K.length cK, .slice (some ⟨gD, 0, none⟩) n.D.length cD] 77)) :=
  ⟨_, _, cK, _, cD, rfl, hb.2, blk_new _ _, hK.below (below_a1 _ _), hD.below (below_a1 _ _), (bal hb _).1⟩
/-- The node's block is written, the rows lie there already. -/
theorem own_b {w0 x : World} {g : Nat} {lf : Bool} {n : Nd} {gK cK gD cD : Nat} (hK : SlInts .u32 x (.slice (some ⟨gK, 0, none⟩) n.K.length cK) n.K) (hD : SlInts .i64 x (.slice (some ⟨gD, 0, none⟩) n.D.length cD) n.D)
    (hb : Below w0.heap.size w0 x ∧ w0.heap.size ≤ x.heap.size) (hle : w0.heap.size ≤ g)
    (hg : x.heap[g]? = some (.cells #[.bool false, .slice none 0 0, .slice none 0 0, .slice none 0 0] 77 (0, 0))) :
    ∃ g' pK cK' pD cD', Value.pointer (some ⟨g, 0, none⟩) = .pointer (some ⟨g', 0, none⟩) ∧ w0.heap.size ≤ g' ∧ ((((x.setCell ⟨g, 0, none⟩ (.bool lf)).setCell ⟨g, 1, none⟩ (.slice none 0 0)).setCell ⟨g, 2, none⟩ (.slice (some ⟨gK, 0, none⟩) n.K.length cK)).setCell ⟨g, 3, none⟩ (.slice (some ⟨gD, 0, none⟩) n.D.length cD)).heap[g']? = some (.cells #[.bool lf, .slice none 0 0, .slice pK n.K.length cK', .slice pD n.D.length cD'] 77 (0, 0)) ∧ SlInts .u32 ((((x.setCell ⟨g, 0, none⟩ (.bool lf)).setCell ⟨g, 1, none⟩ (.slice none 0 0)).setCell ⟨g, 2, none⟩ (.slice (some ⟨gK, 0, none⟩) n.K.length cK)).setCell ⟨g, 3, none⟩ (.slice (some ⟨gD, 0, none⟩) n.D.length cD)) (.slice pK n.K.length cK') n.K ∧ SlInts .i64 ((((x.setCell ⟨g, 0, none⟩ (.bool lf)).setCell ⟨g, 1, none⟩ (.slice none 0 0)).setCell ⟨g, 2, none⟩ (.slice (some ⟨gK, 0, none⟩) n.K.length cK)).setCell ⟨g, 3, none⟩ (.slice (some ⟨gD, 0, none⟩) n.D.length cD)) (.slice pD n.D.length cD') n.D ∧ Below w0.heap.size w0 ((((x.setCell ⟨g, 0, none⟩ (.bool lf)).setCell ⟨g, 1, none⟩ (.slice none 0 0)).setCell ⟨g, 2, none⟩ (.slice (some ⟨gK, 0, none⟩) n.K.length cK)).setCell ⟨g, 3, none⟩ (.slice (some ⟨gD, 0, none⟩) n.D.length cD)) :=
  ⟨g, _, cK, _, cD, rfl, hle, set4_blk hg _ _ _ _, hK.set4 hg _ _ _ _, hD.set4 hg _ _ _ _, (bsc (bsc (bsc (bsc hb (p := ⟨g, 0, none⟩) hle _) (p := ⟨g, 1, none⟩) hle _) (p := ⟨g, 2, none⟩) hle _) (p := ⟨g, 3, none⟩) hle _).1⟩
theorem Tryd.info128 : (Tryd.prog.info? 128).map (fun i => (i.zero, i.size, i.bytes)) = some (some (.agg #[.int .u32 0, .int .i64 0, .string ⟨#[]⟩, .int .i64 0]), 4, 40) := by kernel_rfl
theorem SlItems.of_ownR {w : World} {base : Nat} {e : TypeId} {v : Value} {l : List It} (h : w.ownsRow base e 4 v l.length (itCells l)) : SlItems w v l := by
  rcases h.2 with ⟨h1, h2⟩ | ⟨g, cap, cur, hv, hb, hg, _⟩
  · exact .inl ⟨h1, List.eq_nil_of_length_eq_zero h2⟩
  · have hget := itCells_get l
    refine .inr ⟨g, 0, cap, hv, ⟨fun _ => blk_lt hg, fun i hi => ?_, fun i hi => ?_, fun i hi => ?_, fun i hi => ?_⟩⟩
    · rw [Nat.zero_add]; exact row_cell h hv (j := i * 4) (by have := hget i 0 hi (by decide); rw [Nat.add_zero] at this; rw [this]; rfl)
    · rw [Nat.zero_add]; exact row_cell h hv (by rw [hget i 1 hi (by decide)]; rfl)
    · rw [Nat.zero_add]; exact row_cell h hv (by rw [hget i 2 hi (by decide)]; rfl)
    · rw [Nat.zero_add]; exact row_cell h hv (by rw [hget i 3 hi (by decide)]; rfl)
set_option maxRecDepth 100000 in
set_option maxHeartbeats 16000000 in
theorem law23_Own (n : Nd) (v1 v2 v3 : Value) (w : World) (h : NdAt w v1 v2 v3 n) (lI : n.I.length ≤ 4096) (lK : n.K.length ≤ 4096) (lD : n.D.length ≤ 4096) :
    Calls Tryd.prog 43 #[.agg #[.bool n.lf, v1, v2, v3]] w fun e w' => ∃ u1 u2 u3, e = .returned (.agg #[.bool n.lf, u1, u2, u3]) ∧ NdAt w' u1 u2 u3 n ∧ Below w.heap.size w w' := by
  obtain ⟨p1, c1, p2, c2, p3, c3, rfl, rfl, rfl⟩ := h.form
  obtain ⟨i0, ih, i1, i2, i3⟩ := info_parts Tryd.info22
  obtain ⟨j0, jh, j1, j2, j3⟩ := info_parts Tryd.info3
  go_enter Tryd.func43, Tryd.ntmps43
  go_upto_region 1 with (fail)
  obtain ⟨w0, hw0, hb0, hr0, hn0, B0, hsz⟩ := own_w0 w n p1 p2 p3 c1 c2 c3 h
  rw [hw0]
  clear hw0 h
  have Bd : Hid (Below w0.heap.size w0 w0 ∧ w0.heap.size ≤ w0.heap.size) := ⟨Below.refl _ _, Nat.le_refl _⟩
  have hK := Lib.hid hn0.K
  have hD := Lib.hid hn0.D
  have Hb0 := Lib.hid hb0
  have hl0 : w.heap.size < w0.heap.size := by omega
  have Hsz := Lib.hid hsz
  clear hsz
  have sOf : Hid (∀ X, (Below w0.heap.size w0 X ∧ w0.heap.size ≤ X.heap.size) → (X.cell? ⟨w.heap.size, 0, none⟩ = some (.bool n.lf) ∧ X.cell? ⟨w.heap.size, 2, none⟩ = some (.slice p2 n.K.length c2) ∧ X.cell? ⟨w.heap.size, 3, none⟩ = some (.slice p3 n.D.length c3))) :=
    fun X h => ⟨(h.1.cell (p := ⟨w.heap.size, 0, none⟩) hl0).trans ((blk_cell hb0) 0), (h.1.cell (p := ⟨w.heap.size, 2, none⟩) hl0).trans ((blk_cell hb0) 2), (h.1.cell (p := ⟨w.heap.size, 3, none⟩) hl0).trans ((blk_cell hb0) 3)⟩
  go_cut [3] (fun s3 wc => ∃ g pK cK pD cD, s3 = .pointer (some ⟨g, 0, none⟩) ∧ w0.heap.size ≤ g ∧ wc.heap[g]? = some (.cells #[.bool n.lf, .slice none 0 0, .slice pK n.K.length cK, .slice pD n.D.length cD] 77 (0, 0)) ∧ SlInts .u32 wc (.slice pK n.K.length cK) n.K ∧ SlInts .i64 wc (.slice pD n.D.length cD) n.D ∧ Below w0.heap.size w0 wc)
  case first =>
    go_region_held3 (fun w' => w'.cell? ⟨w.heap.size, 0, none⟩ = some (.bool n.lf) ∧ w'.cell? ⟨w.heap.size, 2, none⟩ = some (.slice p2 n.K.length c2) ∧ w'.cell? ⟨w.heap.size, 3, none⟩ = some (.slice p3 n.D.length c3)) (first | (refine sOf.out _ ?_; repeat (first | exact KB.out | exact DB.out | exact Bd.out | refine bdr ?_ | refine bal ?_ _ | refine bsc ?_ (by first | exact Nat.le_refl _ | (simp; done) | (have := KB.out.2; simp; omega) | (have := DB.out.2; simp; omega) | (have := KB.out.2; omega) | (have := DB.out.2; omega)) _)))
      (first
        | (refine step_append_fresh (by rfl) _ _ _ (by rfl) 22 i0 _ Tryd.underlying70 ih i1 i2 (by omega) ⟨_, by rfl⟩ (.slice p2 n.K.length c2) (by rfl) .u32 n.K (hK.out.bb (by repeat (first | exact KB.out | exact DB.out | exact Bd.out | refine bdr ?_ | refine bal ?_ _))) lK ?_; intro gK cK xK hKs hKb; (try have hDt := hDs.below (bbl (by repeat (first | exact ⟨Below.refl _ _, Nat.le_refl _⟩ | refine bdr ?_ | refine bal ?_ _)) hKb : Below xD.heap.size xD xK ∧ xD.heap.size ≤ xK.heap.size).1); have KB : Hid (Below w0.heap.size w0 xK ∧ w0.heap.size ≤ xK.heap.size) := bbl (by repeat (first | exact KB.out | exact DB.out | exact Bd.out | refine bdr ?_ | refine bal ?_ _)) hKb; have KS := sOf.out _ KB.out; have hKg := KB.out.2; have hKz := hKb.size; (try simp at hKz); (try have lK0 : w0.heap.size < xK.heap.size := by omega); (try have nK0 : ¬ w0.heap.size = xK.heap.size := by omega); (try have lK1 : w0.heap.size + 1 < xK.heap.size := by omega); (try have nK1 : ¬ w0.heap.size + 1 = xK.heap.size := by omega); (try have lK2 : w0.heap.size + 2 < xK.heap.size := by omega); (try have nK2 : ¬ w0.heap.size + 2 = xK.heap.size := by omega); (try have lK3 : xD.heap.size < xK.heap.size := by omega); (try have nK3 : ¬ xD.heap.size = xK.heap.size := by omega); (try have lK4 : xD.heap.size + 1 < xK.heap.size := by omega); (try have nK4 : ¬ xD.heap.size + 1 = xK.heap.size := by omega); (try have aK0 := fun o => hKb.cell (p := ⟨w0.heap.size, o, none⟩) (by first | (simp; done) | (simp; omega) | omega)); (try have bK0 := fun o => hKb.frozen (p := ⟨w0.heap.size, o, none⟩) (by first | (simp; done) | (simp; omega) | omega)); (try have aK1 := fun o => hKb.cell (p := ⟨w0.heap.size + 1, o, none⟩) (by first | (simp; done) | (simp; omega) | omega)); (try have bK1 := fun o => hKb.frozen (p := ⟨w0.heap.size + 1, o, none⟩) (by first | (simp; done) | (simp; omega) | omega)); (try have aK2 := fun o => hKb.cell (p := ⟨w0.heap.size + 2, o, none⟩) (by first | (simp; done) | (simp; omega) | omega)); (try have bK2 := fun o => hKb.frozen (p := ⟨w0.heap.size + 2, o, none⟩) (by first | (simp; done) | (simp; omega) | omega)); (try have aK3 := fun o => hKb.cell (p := ⟨xD.heap.size, o, none⟩) (by first | (simp; done) | (simp; omega) | omega)); (try have bK3 := fun o => hKb.frozen (p := ⟨xD.heap.size, o, none⟩) (by first | (simp; done) | (simp; omega) | omega)); (try have aK4 := fun o => hKb.cell (p := ⟨xD.heap.size + 1, o, none⟩) (by first | (simp; done) | (simp; omega) | omega)); (try have bK4 := fun o => hKb.frozen (p := ⟨xD.heap.size + 1, o, none⟩) (by first | (simp; done) | (simp; omega) | omega)))
        | (refine step_append_fresh (by rfl) _ _ _ (by rfl) 3 j0 _ Tryd.underlying71 jh j1 j2 (by omega) ⟨_, by rfl⟩ (.slice p3 n.D.length c3) (by rfl) .i64 n.D (hD.out.bb (by repeat (first | exact KB.out | exact DB.out | exact Bd.out | refine bdr ?_ | refine bal ?_ _))) lD ?_; intro gD cD xD hDs hDb; (try have hKt := hKs.below (bbl (by repeat (first | exact ⟨Below.refl _ _, Nat.le_refl _⟩ | refine bdr ?_ | refine bal ?_ _)) hDb : Below xK.heap.size xK xD ∧ xK.heap.size ≤ xD.heap.size).1); have DB : Hid (Below w0.heap.size w0 xD ∧ w0.heap.size ≤ xD.heap.size) := bbl (by repeat (first | exact KB.out | exact DB.out | exact Bd.out | refine bdr ?_ | refine bal ?_ _)) hDb; have DS := sOf.out _ DB.out; have hDg := DB.out.2; have hDz := hDb.size; (try simp at hDz); (try have lD0 : w0.heap.size < xD.heap.size := by omega); (try have nD0 : ¬ w0.heap.size = xD.heap.size := by omega); (try have lD1 : w0.heap.size + 1 < xD.heap.size := by omega); (try have nD1 : ¬ w0.heap.size + 1 = xD.heap.size := by omega); (try have lD2 : w0.heap.size + 2 < xD.heap.size := by omega); (try have nD2 : ¬ w0.heap.size + 2 = xD.heap.size := by omega); (try have lD3 : xK.heap.size < xD.heap.size := by omega); (try have nD3 : ¬ xK.heap.size = xD.heap.size := by omega); (try have lD4 : xK.heap.size + 1 < xD.heap.size := by omega); (try have nD4 : ¬ xK.heap.size + 1 = xD.heap.size := by omega); (try have aD0 := fun o => hDb.cell (p := ⟨w0.heap.size, o, none⟩) (by first | (simp; done) | (simp; omega) | omega)); (try have bD0 := fun o => hDb.frozen (p := ⟨w0.heap.size, o, none⟩) (by first | (simp; done) | (simp; omega) | omega)); (try have aD1 := fun o => hDb.cell (p := ⟨w0.heap.size + 1, o, none⟩) (by first | (simp; done) | (simp; omega) | omega)); (try have bD1 := fun o => hDb.frozen (p := ⟨w0.heap.size + 1, o, none⟩) (by first | (simp; done) | (simp; omega) | omega)); (try have aD2 := fun o => hDb.cell (p := ⟨w0.heap.size + 2, o, none⟩) (by first | (simp; done) | (simp; omega) | omega)); (try have bD2 := fun o => hDb.frozen (p := ⟨w0.heap.size + 2, o, none⟩) (by first | (simp; done) | (simp; omega) | omega)); (try have aD3 := fun o => hDb.cell (p := ⟨xK.heap.size, o, none⟩) (by first | (simp; done) | (simp; omega) | omega)); (try have bD3 := fun o => hDb.frozen (p := ⟨xK.heap.size, o, none⟩) (by first | (simp; done) | (simp; omega) | omega)); (try have aD4 := fun o => hDb.cell (p := ⟨xK.heap.size + 1, o, none⟩) (by first | (simp; done) | (simp; omega) | omega)); (try have bD4 := fun o => hDb.frozen (p := ⟨xK.heap.size + 1, o, none⟩) (by first | (simp; done) | (simp; omega) | omega))))
    all_goals
      go_wp2_with fail
      go_meet
      first
        | with_reducible refine own_a ?_ ?_ ?_
        | with_reducible refine own_b ?_ ?_ ?_ ?_ ?_
      · first | exact hKs | exact hKt
      · first | exact hDs | exact hDt
      · first | exact KB.out | exact DB.out
      all_goals try (first | omega | (simp; done) | (simp; omega))
      all_goals repeat (first | (with_reducible refine kD ?_) | (with_reducible refine kB hKb ?_ (by first | omega | (simp; done) | (simp; omega))) | (with_reducible refine kB hDb ?_ (by first | omega | (simp; done) | (simp; omega))) | (with_reducible exact kN _ (by first | omega | (simp; done) | (simp; omega))) | (with_reducible refine kA ?_ (by first | omega | (simp; done) | (simp; omega)) _))
  case rest =>
    obtain ⟨g, pK, cK, pD, cD, rfl, hge, hgb, hKc, hDc, hbc⟩ := hcut
    have HGB := Lib.hid hgb
    have BC := Lib.hid hbc
    have Brc := Lib.hid (blk_below hr0 hbc)
    have Hn0 := Lib.hid hn0
    have HKD : Hid (∀ W', (∀ k, k < wc.heap.size → k ≠ g → k ≠ w.heap.size + 1 → W'.heap[k]? = wc.heap[k]?) → SlInts .u32 W' (.slice pK n.K.length cK) n.K ∧ SlInts .i64 W' (.slice pD n.D.length cD) n.D) := fun W' hW => ⟨hKc.far HGB.out Brc.out hW, hDc.far HGB.out Brc.out hW⟩
    have hzc : w0.heap.size ≤ wc.heap.size := hbc.size
    have hgc : g < wc.heap.size := blk_lt hgb
    have hsz := Hsz.out
    obtain ⟨k0, kh, k1, k2, k3⟩ := info_parts Tryd.info128
    clear hKc hDc hbc hgb hb0 hr0 hn0 sOf
    go_wp2_with fail
    go_loopw [4] (fun iv wr => ∃ k : Nat, k ≤ n.I.length ∧ iv = .int .i64 k ∧ ∃ vI, wr.ownsRow wc.heap.size 128 4 vI k (itCells (n.I.take k)) ∧ wr.heap[g]? = some (.cells #[.bool n.lf, vI, .slice pK n.K.length cK, .slice pD n.D.length cD] 77 (0, 0)) ∧ Fr (· = g) wc wr) (fun iv _ => n.I.length - (intOf iv).toNat)
    case atStart => exact ⟨0, Nat.zero_le _, rfl, .slice none 0 0, World.ownsRow_nil _ _ _ _, HGB.out, Fr.refl _ _⟩
    case round =>
      obtain ⟨k, hk, rfl, vI, hO, hG, hF⟩ := hrel
      obtain ⟨pI, cI, rfl⟩ := row_form hO
      have HO := Lib.hid hO
      have HG := Lib.hid hG
      have HF := Lib.hid hF
      have HBW : Hid (Below w0.heap.size w0 wr) := Below.fr BC.out hF hge BC.out.size
      have HBB := Lib.hid (bstep B0 HBW.out)
      have hcb := blk_cell (blk_below Hb0.out HBW.out)
      have hcg := blk_cell hG
      have hfg := blk_frozen hG
      have hzr : wc.heap.size ≤ wr.heap.size := hF.size
      have hbr : wr.heap[w.heap.size + 1]? = some (.cells #[.bool false, .slice none 0 0, .slice none 0 0, .slice none 0 0] 77 (0, 0)) := by rw [hF.block _ (by omega) (by omega)]; exact Brc.out
      have HBR := Lib.hid hbr
      clear hO hG hF hbr
      by_cases hlt : k < n.I.length
      · have hi : (k : Int) < (n.I.length : Int) := by omega
        obtain ⟨b, off, rfl, hI⟩ := (Hn0.out.below HBW.out).I.at hlt
        have c0 := hI.key k hlt
        have c1 := hI.size k hlt
        have c2 := hI.text k hlt
        have c3 := hI.page k hlt
        obtain ⟨x, hx⟩ : ∃ x, x = n.I[k] := ⟨_, rfl⟩
        rw [← hx] at c0 c1 c2 c3
        have hst : itCells (n.I.take (k + 1)) = itCells (n.I.take k) ++ itCells [x] := by rw [List.take_succ_eq_append_getElem hlt, itCells_append, hx]
        have Hst := Lib.hid hst
        clear hx hI hst
        obtain ⟨xk, xs, xt, xp⟩ := x
        simp only at c0 c1 c2 c3
        have hgr : g < wr.heap.size := by omega
        go_wp2_with (at_builtin; refine wpList_append_lies _ rfl _ _ _ rfl wc.heap.size 128 k0 _ 4 40 Tryd.underlying75 kh k1 k2 k3 rfl (by decide) (.slice pI k cI) k (itCells (n.I.take k)) rfl ((HO.out.alloc _).alloc _) ⟨wr.heap.size + 1, 0, none⟩ 1 1 [.int .u32 xk, .int .i64 xs, .string xt, .int .i64 xp] rfl rfl (World.news_of_block (cs := #[.int .u32 xk, .int .i64 xs, .string xt, .int .i64 xp]) (t := 128) (fr := (0, 0)) (kN _ (by simp))) (by simp [Value.oneCell']) (by decide) (by simp only [maxLen]; omega) (by omega) (by simp; omega) (wr.heap.size + 1 + 1) (by simp) ?_; intro gI cI' x2 hown2 hgrow hat hltg; have hrow := fun q hq => (HO.out.lt q hq).1; have hg2 : x2.heap[g]? = some (.cells #[.bool n.lf, .slice pI k cI, .slice pK n.K.length cK, .slice pD n.D.length cD] 77 (0, 0)) := (hgrow.block g (by simp; omega) (fun e => by have := hrow _ e.symm; omega)).trans (kA (kA HG.out hgr _) (by simp; omega) _); have HG2 := Lib.hid hg2; have hc2 := blk_cell hg2; have hf2 := blk_frozen hg2)
        have hF2 := ((HF.out.alloc (.cells #[.int .u32 xk, .int .i64 xs, .string xt, .int .i64 xp] 97)).alloc (.cells #[.int .u32 xk, .int .i64 xs, .string xt, .int .i64 xp] 128)).grow hgrow hrow
        have HF2 := Lib.hid hF2
        have HW2 := Lib.hid hown2
        clear hg2 hF2 hown2 hcb hcg hfg c0 c1 c2 c3
        go_wp2_with fail
        go_roundw
        case rel =>
          refine ⟨k + 1, by omega, by go_num, .slice (some ⟨gI, 0, none⟩) (k + 1) cI', ?_, ?_, HF2.out.setCell (p := ⟨g, 1, none⟩) (.inl rfl) _⟩
          · rw [Hst.out, itCells_one]; exact row_set HW2.out hgc 1 _
          · have := blk_set HG2.out 1 (.slice (some ⟨gI, 0, none⟩) (k + 1) cI'); simpa using this
        case measure => simp [intOf]; omega
      · have hi : ¬ (k : Int) < (n.I.length : Int) := by omega
        obtain rfl : k = n.I.length := by omega
        have hcr := blk_cell HBR.out
        have hfr := blk_frozen HBR.out
        have br6 := set4_blk HBR.out (.bool n.lf) (.slice pI n.I.length cI) (.slice pK n.K.length cK) (.slice pD n.D.length cD)
        have B6 := set4_below HBB.out (p := w.heap.size + 1) (Nat.le_succ _) (.bool n.lf) (.slice pI n.I.length cI) (.slice pK n.K.length cK) (.slice pD n.D.length cD)
        have kd := HKD.out (set4 wr (w.heap.size + 1) (.bool n.lf) (.slice pI n.I.length cI) (.slice pK n.K.length cK) (.slice pD n.D.length cD)) (fun q h1 h2 h3 => by
          unfold set4
          rw [Below.heap_setCell _ _ _ _ h3, Below.heap_setCell _ _ _ _ h3, Below.heap_setCell _ _ _ _ h3, Below.heap_setCell _ _ _ _ h3]
          exact HF.out.block q h1 h2)
        have hOO : (set4 wr (w.heap.size + 1) (.bool n.lf) (.slice pI n.I.length cI) (.slice pK n.K.length cK) (.slice pD n.D.length cD)).ownsRow wc.heap.size 128 4 (.slice pI n.I.length cI) n.I.length (itCells n.I) := by
          have h0 := HO.out
          rw [List.take_length] at h0
          unfold set4
          exact row_set (row_set (row_set (row_set h0 (by omega) 0 _) (by omega) 1 _) (by omega) 2 _) (by omega) 3 _
        have N6 : NdAt (set4 wr (w.heap.size + 1) (.bool n.lf) (.slice pI n.I.length cI) (.slice pK n.K.length cK) (.slice pD n.D.length cD)) (.slice pI n.I.length cI) (.slice pK n.K.length cK) (.slice pD n.D.length cD) n := ⟨SlItems.of_ownR hOO, kd.1, kd.2, by omega, by omega, by omega⟩
        have s0 := blk_cell br6 0
        have s1 := blk_cell br6 1
        have s2 := blk_cell br6 2
        have s3 := blk_cell br6 3
        simp only [List.getElem?_toArray, List.getElem?_cons_zero, List.getElem?_cons_succ] at s0 s1 s2 s3
        have H6 := Lib.hid (And.intro N6 B6)
        clear B6 br6 N6 kd hOO
        unfold set4 at s0 s1 s2 s3 H6
        go_wp2_with fail
        exact bodyPost_ret (v := .agg #[.bool n.lf, .slice pI n.I.length cI, .slice pK n.K.length cK, .slice pD n.D.length cD]) (by simp only [results, Tryd.results43]; simp [go_sem, s0, s1, s2, s3]) rfl ⟨_, _, _, rfl, H6.out.1, H6.out.2⟩
end Go.Proofs.YtlpdanghcdajmaaDoor
