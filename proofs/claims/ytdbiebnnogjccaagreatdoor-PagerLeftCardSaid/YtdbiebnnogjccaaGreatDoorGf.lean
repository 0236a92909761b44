/- Pages (layer 22): Take, Give. -/
import Derived.Test.YtdbiebnnogjccaaGreatDoorGd
import Derived.Test.YtdbiebnnogjccaaGreatDoorDi
namespace Go.Proofs.YtdbiebnnogjccaaGreatDoor
open Go.RowKit Go.Maps
section
variable {w : World} {p pm g mb cb : Nat} {n : Int} {lg : Nat} {l : List Int} {d : Dk} {S : Nat → Prop}
theorem fr_grown1 {w w' : World} {b : Nat} (h : w.grownBy w' (some b)) : Fr (fun q => q = b) w w' := (Fr.refl _ w).grown h (fun q hq => .inl (by injection hq with hq; exact hq.symm))
theorem PgC.at (h : PgC w p pm g mb cb n lg l d) : PgAt w (PgS p pm g mb cb) p n lg l d := ⟨pm, g, mb, cb, h, rfl⟩
/-- Behind a taking. -/
def TakeP (S : Nat → Prop) (p : Nat) (n : Int) (lg : Nat) (r : List Int × Int × Int) (d : Dk) (w : World) (e : Ending) (w' : World) : Prop :=
  e = .returned (.tuple #[.int .i64 r.2.1, .int .i64 r.2.2]) ∧ PgAt w' S p n lg r.1 d ∧ Fr S w w'
theorem PgC.setK (h : PgC w p pm g mb cb n lg l d) {w' : World} {i c : Int} {k : Nat} (hi : 0 ≤ i ∧ i < (l.length : Int)) (hc : c = 0 ∨ c = 1 ∨ c = 2) (hm : MapI w' pm k (setI (kindL l) i c)) (hg : w.grownBy w' (some pm)) : PgC w' p pm g mb cb n lg (setL l i c) d :=
  h.mapped (hm.congr fun j => by unfold setI; rw [kindL_set hi]) (fr_grown1 hg) (setL_length _ _ _) (h.good.set i hc)
set_option maxRecDepth 20000 in
set_option maxHeartbeats 4000000 in
theorem pager_Take (w : World) (h : PgAt w S p n lg l d) : Calls Tryz.prog 41 #[.pointer (some ⟨p, 0, none⟩)] w (TakeP S p n lg (takeL l) d w) := by
  obtain ⟨pm, g, mb, cb, h, rfl⟩ := h
  have H := Lib.hid h
  have hc := blk_cell h.blk
  unfold pgCells at hc
  have len := h.len
  have pg := h.pages
  have HM := Lib.hid h.map
  clear h
  go_enter Tryz.func41, Tryz.ntmps41
  go_wp2_with fail
  go_loop [12] (fun c => ∃ k : Nat, k ≤ l.length ∧ c = .int .i64 k ∧ ∀ j : Nat, j < k → kindL l (j : Int) ≠ 0) (fun c => l.length - (intOf c).toNat)
  case atStart => exact ⟨0, Nat.zero_le _, rfl, fun j h => absurd h (Nat.not_lt_zero _)⟩
  case round =>
    obtain ⟨k, hk, rfl, hp⟩ := hrel
    have HP := Lib.hid hp
    clear hp
    by_cases hlt : k < l.length
    · have hi : (k : Int) < n - 2 - (lg : Int) := by omega
      have wk : wf64 (k : Int) := wf64_of (by omega) (by omega)
      have v1 : IntKind.i64.wrap ((k : Int) + 1) = (k : Int) + 1 := IntWalk.i64_in _ (by omega)
      by_cases hz : kindL l (k : Int) = 0
      · have q0 : (kindL l (k : Int) == 0) = true := by rw [hz]; rfl
        obtain ⟨m, hm⟩ := ofK_first hlt hz HP.out
        have TK := Lib.hid (takeL_some hm)
        have HZ := Lib.hid hz
        clear hz hm
        go_wp2_with (first
          | (at_lookup; refine wpList_look_int _ rfl _ _ rfl pm l.length (kindL l) rfl HM.out (k : Int) rfl wk ?_)
          | (at_mapUpdate; refine wpList_put_int _ rfl _ _ _ rfl pm l.length (kindL l) rfl HM.out (by unfold maxLen; omega) (k : Int) rfl wk 2 (by decide) (by decide) rfl ?_; intro w1 k1 k2; have K1 := Lib.hid k1; have K2 := Lib.hid k2; clear k1 k2))
        go_ret2
        show TakeP _ _ _ _ _ _ _ _ _
        rw [TK.out]
        exact ⟨rfl, (H.out.setK ⟨by omega, by omega⟩ (.inr (.inr rfl)) K1.out K2.out).at, (fr_grown1 K2.out).mono fun b hb => .inr (.inr hb)⟩
      · have q0 : (kindL l (k : Int) == 0) = false := by rw [beq_eq_false_iff_ne]; exact hz
        have HZ := Lib.hid hz
        clear hz
        go_wp2_with (first
          | (at_lookup; refine wpList_look_int _ rfl _ _ rfl pm l.length (kindL l) rfl HM.out (k : Int) rfl wk ?_))
        go_round
        case rel =>
          refine ⟨k + 1, by omega, by go_num, fun j hj => ?_⟩
          by_cases e : j = k
          · rw [e]; exact HZ.out
          · exact HP.out j (by omega)
        case measure => simp [intOf]; omega
    · have hi : ¬ (k : Int) < n - 2 - (lg : Int) := by omega
      have TK := Lib.hid (takeL_none (ofK_none (l := l) (k := 0) fun j hj => HP.out j (by omega)))
      go_wp2_with fail
      go_ret2
      show TakeP _ _ _ _ _ _ _ _ _
      rw [TK.out]
      exact ⟨rfl, H.out.at, Fr.refl _ _⟩
/-- Behind a giving back. -/
def GiveP (S : Nat → Prop) (p : Nat) (n : Int) (lg : Nat) (r : List Int × Int) (d : Dk) (w : World) (e : Ending) (w' : World) : Prop :=
  e = .returned (.int .i64 r.2) ∧ PgAt w' S p n lg r.1 d ∧ Fr S w w'
set_option maxRecDepth 20000 in
set_option maxHeartbeats 2000000 in
theorem pager_Give (i : Int) (hi : wf64 i) (w : World) (h : PgAt w S p n lg l d) : Calls Tryz.prog 45 #[.pointer (some ⟨p, 0, none⟩), .int .i64 i] w (GiveP S p n lg (giveL l i) d w) := by
  obtain ⟨pm, g, mb, cb, h, rfl⟩ := h
  have H := Lib.hid h
  have hc := blk_cell h.blk
  unfold pgCells at hc
  have HM := Lib.hid h.map
  have LK := h.map.look hi
  clear h
  by_cases hz : kindL l i = 2
  · have q0 : (kindL l i != 2) = false := by rw [hz]; rfl
    have GV : Hid (giveL l i = (setL l i 0, 0)) := by show _ = _; unfold giveL; rw [if_pos hz]
    have hb := kindL_in (l := l) (i := i) (by rw [hz]; decide)
    clear hz
    go_enter Tryz.func45, Tryz.ntmps45
    go_wp2_with (first
      | (at_delete; refine wpList_del_int _ rfl _ _ rfl pm l.length (kindL l) rfl HM.out i rfl hi ?_; intro w1 k1 k2; have K1 := Lib.hid k1; have K2 := Lib.hid k2; clear k1 k2))
    go_ret
    show GiveP _ _ _ _ _ _ _ _ _
    rw [GV.out]
    exact ⟨rfl, (H.out.setK hb (.inl rfl) K1.out K2.out).at, (fr_grown1 K2.out).mono fun b hb => .inr (.inr hb)⟩
  · have q0 : (kindL l i != 2) = true := by rw [bne_iff_ne]; exact hz
    have GV : Hid (giveL l i = (l, 1)) := by show _ = _; unfold giveL; rw [if_neg hz]
    clear hz
    go_enter Tryz.func45, Tryz.ntmps45
    go_wp2_with fail
    go_ret
    show GiveP _ _ _ _ _ _ _ _ _
    rw [GV.out]
    exact ⟨rfl, H.out.at, Fr.refl _ _⟩
end
end Go.Proofs.YtdbiebnnogjccaaGreatDoor

/- Pages (layer 22): ContainsFunc over numbers by a closure; Keep. -/
namespace Go.Proofs.YtdbiebnnogjccaaGreatDoor
open Go.RowKit Go.Maps
set_option maxRecDepth 20000 in
set_option maxHeartbeats 1000000 in
theorem idx_ints (G : FuncId) (cb : Array Value) (eg : ∀ args w, (callFunc G args).run Tryz.prog w = .ok (.enter G args) w) (pr : Int → Bool) (v : Value) (l : List Int) (hl : l.length < 4294967296) (w : World) (hI : SlIl w v l)
    (hf : ∀ x ∈ l, Calls Tryz.prog G (#[.int .i64 x] ++ cb) w fun e w' => e = .returned (.bool (pr x)) ∧ w = w') :
    Calls Tryz.prog 139 #[v, .func (.func G) #[] cb] w fun e w' => e = .returned (.int .i64 (firstI pr l)) ∧ w = w' := by
  have HF := Lib.hid hf
  have HI := Lib.hid hI
  obtain ⟨pv, cv, rfl, _⟩ := hI.form
  obtain ⟨m, hm⟩ : ∃ m, m = l.length := ⟨_, rfl⟩
  rw [← hm] at HI ⊢
  have HM := Lib.hid hm
  have m4 : m < 4294967296 := by omega
  clear hf hI hm hl
  go_enter Tryz.func139, Tryz.ntmps139
  go_wp2_with fail
  go_loop [8] (fun iv => ∃ k : Nat, k ≤ m ∧ iv = .int .i64 k ∧ ∀ j (h : j < l.length), j < k → pr l[j] = false) (fun iv => m - (intOf iv).toNat)
  case atStart => exact ⟨0, Nat.zero_le _, rfl, fun j _ h => absurd h (by omega)⟩
  case round =>
    obtain ⟨k, hk, rfl, hpre⟩ := hrel
    have HP := Lib.hid hpre
    clear hpre
    by_cases hlt : k < m
    · have hi : (k : Int) < (m : Int) := by omega
      have hi0 : (0 : Int) ≤ (k : Int) := by omega
      have hlk : k < l.length := by rw [← HM.out]; exact hlt
      obtain ⟨b, off, rfl, hA⟩ := SlIl.atN HM.out HI.out hlk
      have c0 := hA.at' k hlk
      have hc := HF.out l[k] (List.getElem_mem hlk)
      obtain ⟨x, hx⟩ : ∃ x, x = l[k] := ⟨_, rfl⟩
      rw [← hx] at c0 hc
      have Hx := Lib.hid hx
      have v1 : IntKind.i64.wrap ((k : Int) + 1) = (k : Int) + 1 := IntWalk.i64_in _ (by omega)
      clear hA hx
      cases hp : pr x with
      | true =>
        rw [hp] at hc
        have HC := Lib.hid hc
        have FI := Lib.hid (firstI_hit (pr := pr) hlk (by rw [← Hx.out]; exact hp) HP.out)
        clear hc hp
        go_wp2_with (go_at_fn G; refine HC.out.mono ?_; rintro e w2 ⟨rfl, rfl⟩)
        go_ret
        exact ⟨by rw [FI.out]; rfl, rfl⟩
      | false =>
        rw [hp] at hc
        have HC := Lib.hid hc
        have FI : Hid (pr l[k] = false) := by show _ = _; rw [← Hx.out]; exact hp
        clear hc hp
        go_wp2_with (go_at_fn G; refine HC.out.mono ?_; rintro e w2 ⟨rfl, rfl⟩)
        go_round
        case rel =>
          refine ⟨k + 1, by omega, by go_num, fun j hj hjk => ?_⟩
          by_cases e : j = k
          · subst e; exact FI.out
          · exact HP.out j hj (by omega)
        case measure => simp [intOf]; omega
    · have hi : ¬ (k : Int) < (m : Int) := by omega
      have FI := Lib.hid (firstI_none (pr := pr) (l := l) fun j hj => HP.out j hj (by have := HM.out; omega))
      go_wp2_with fail
      go_ret
      exact ⟨by rw [FI.out]; rfl, rfl⟩
theorem firstI_any {pr : Int → Bool} {l : List Int} : decide (0 ≤ firstI pr l) = l.any pr := by
  by_cases h : ∃ x ∈ l, pr x = true
  · have e : l.any pr = true := by obtain ⟨x, hx, hp⟩ := h; exact List.any_eq_true.2 ⟨x, hx, hp⟩
    rw [e]
    have hlt := List.findIdx_lt_length_of_exists h
    unfold firstI
    rw [if_pos hlt]
    exact decide_eq_true (by omega)
  · have hn : ∀ x ∈ l, pr x = false := fun x hx => by
      cases hp : pr x with
      | false => rfl
      | true => exact absurd ⟨x, hx, hp⟩ h
    have e : l.any pr = false := List.any_eq_false.2 fun x hx => by rw [hn x hx]; decide
    rw [e, firstI_none (fun j hj => hn _ (List.getElem_mem hj))]
    rfl
set_option maxHeartbeats 1000000 in
theorem has_ints (G : FuncId) (cb : Array Value) (eg : ∀ args w, (callFunc G args).run Tryz.prog w = .ok (.enter G args) w) (pr : Int → Bool) (v : Value) (l : List Int) (hl : l.length < 4294967296) (w : World) (hI : SlIl w v l)
    (hf : ∀ x ∈ l, Calls Tryz.prog G (#[.int .i64 x] ++ cb) w fun e w' => e = .returned (.bool (pr x)) ∧ w = w') :
    Calls Tryz.prog 103 #[v, .func (.func G) #[] cb] w fun e w' => e = .returned (.bool (l.any pr)) ∧ w = w' := by
  have H := Lib.hid (idx_ints G cb eg pr v l hl w hI hf)
  have E := Lib.hid (firstI_any (pr := pr) (l := l))
  obtain ⟨r, hr⟩ : ∃ r, r = firstI pr l := ⟨_, rfl⟩
  rw [← hr] at H E
  clear hr hI hf
  go_enter Tryz.func103, Tryz.ntmps103
  go_wp2_with fail
  refine H.out.mono ?_; rintro e w2 ⟨rfl, rfl⟩
  go_wp2_with fail
  go_ret
  exact ⟨by rw [← E.out]; rfl, rfl⟩
section
variable {w : World} {p pm g mb cb : Nat} {n : Int} {lg : Nat} {l : List Int} {d : Dk} {S : Nat → Prop}
set_option maxHeartbeats 1000000 in
theorem keep_1 {mv : Value} {k : Nat} (x : Int) (q : Nat) (w : World) (h : PgB w p g mb cb n lg mv k d) (hq : w.cell? ⟨q, 0, none⟩ = some (.pointer (some ⟨p, 0, none⟩))) :
    Calls Tryz.prog 104 (#[.int .i64 x] ++ #[.pointer (some ⟨q, 0, none⟩)]) w fun e w' => e = .returned (.bool (!isP k x)) ∧ w = w' := by
  have I := Lib.hid (pager_is x w h)
  clear h
  show Calls Tryz.prog 104 #[.int .i64 x, .pointer (some ⟨q, 0, none⟩)] w _
  go_enter Tryz.func104, Tryz.ntmps104
  go_wp2_with fail
  refine I.out.mono ?_; rintro e w2 ⟨rfl, rfl⟩
  go_wp2_with fail
  go_ret
  exact ⟨rfl, rfl⟩
theorem inL_any (k : Nat) (L : List Int) : L.any (fun x => !isP k x) = !inL k L := by
  unfold inL isP
  rw [List.not_all_eq_any_not]
end
end Go.Proofs.YtdbiebnnogjccaaGreatDoor
