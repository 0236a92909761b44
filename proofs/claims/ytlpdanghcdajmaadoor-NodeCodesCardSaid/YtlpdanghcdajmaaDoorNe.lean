/- Nodes (layer 23): the same over nil slices; both together. -/
import Derived.Test.YtlpdanghcdajmaaDoorNd
namespace Go.Proofs.YtlpdanghcdajmaaDoor
open Go.RowKit
/-- A slice value and its items, in memory or nil. -/
def SlItems (w : World) (v : Value) (l : List It) : Prop := (v = .slice none 0 0 ∧ l = []) ∨ ∃ b off cap, v = .slice (some ⟨b, off, none⟩) l.length cap ∧ ItemsAt w b off l
def SlInts (kd : IntKind) (w : World) (v : Value) (l : List Int) : Prop := (v = .slice none 0 0 ∧ l = []) ∨ ∃ b off cap, v = .slice (some ⟨b, off, none⟩) l.length cap ∧ IntsAt kd w b off l
theorem SlItems.below {w w' : World} {v : Value} {l : List It} (h : SlItems w v l) (hb : Below w.heap.size w w') : SlItems w' v l := by
  rcases h with h | ⟨b, off, cap, e, h⟩
  · exact .inl h
  · exact .inr ⟨b, off, cap, e, h.below hb⟩
theorem SlInts.below {kd : IntKind} {w w' : World} {v : Value} {l : List Int} (h : SlInts kd w v l) (hb : Below w.heap.size w w') : SlInts kd w' v l := by
  rcases h with h | ⟨b, off, cap, e, h⟩
  · exact .inl h
  · exact .inr ⟨b, off, cap, e, h.below hb⟩

theorem idx_good1_nil (w : World) : Calls Tryd.prog 94 #[.slice none 0 0, .func (.func 82) #[] #[]] w fun e w' => e = .returned (.int .i64 (-1)) ∧ Below w.heap.size w w' := by
  go_enter Tryd.func94, Tryd.ntmps94
  go_wp2_with fail
  refine wp_loop_rounds 1 ?_
  rw [rounds_succ]
  go_wp2_with fail
  go_ret
  exact ⟨rfl, Below.refl _ _⟩

theorem idx_good3_nil (w : World) : Calls Tryd.prog 104 #[.slice none 0 0, .func (.func 87) #[] #[]] w fun e w' => e = .returned (.int .i64 (-1)) ∧ Below w.heap.size w w' := by
  go_enter Tryd.func104, Tryd.ntmps104
  go_wp2_with fail
  refine wp_loop_rounds 1 ?_
  rw [rounds_succ]
  go_wp2_with fail
  go_ret
  exact ⟨rfl, Below.refl _ _⟩

theorem con_good1_nil (w : World) : Calls Tryd.prog 81 #[.slice none 0 0, .func (.func 82) #[] #[]] w fun e w' => e = .returned (.bool false) ∧ Below w.heap.size w w' := by
  have H := Lib.hid (idx_good1_nil w)
  go_enter Tryd.func81, Tryd.ntmps81
  go_wp2_with fail
  refine H.out.mono ?_; rintro e w1 ⟨rfl, hb⟩
  go_wp2_with fail
  go_ret
  exact ⟨rfl, hb⟩

theorem con_good3_nil (w : World) : Calls Tryd.prog 86 #[.slice none 0 0, .func (.func 87) #[] #[]] w fun e w' => e = .returned (.bool false) ∧ Below w.heap.size w w' := by
  have H := Lib.hid (idx_good3_nil w)
  go_enter Tryd.func86, Tryd.ntmps86
  go_wp2_with fail
  refine H.out.mono ?_; rintro e w1 ⟨rfl, hb⟩
  go_wp2_with fail
  go_ret
  exact ⟨rfl, hb⟩

theorem rise_keys_nil (w : World) : Calls Tryd.prog 89 #[.slice none 0 0, .func (.func 90) #[] #[]] w fun e w' => e = .returned (.bool true) ∧ Below w.heap.size w w' := by
  go_enter Tryd.func89, Tryd.ntmps89
  go_wp2_with fail
  refine wp_loop_rounds 1 ?_
  rw [rounds_succ]
  go_wp2_with fail
  go_ret
  exact ⟨rfl, Below.refl _ _⟩

theorem rise_items_nil (w : World) : Calls Tryd.prog 84 #[.slice none 0 0, .func (.func 85) #[] #[]] w fun e w' => e = .returned (.bool true) ∧ Below w.heap.size w w' := by
  go_enter Tryd.func84, Tryd.ntmps84
  go_wp2_with fail
  refine wp_loop_rounds 1 ?_
  rw [rounds_succ]
  go_wp2_with fail
  go_ret
  exact ⟨rfl, Below.refl _ _⟩

theorem con_good1_all (v : Value) (l : List It) (hl : l.length < 4294967296) (w : World) (hI : SlItems w v l) :
    Calls Tryd.prog 81 #[v, .func (.func 82) #[] #[]] w fun e w' => e = .returned (.bool (l.any (fun x => !goodI x))) ∧ Below w.heap.size w w' := by
  rcases hI with ⟨rfl, rfl⟩ | ⟨b, off, cap, rfl, h⟩
  · exact con_good1_nil w
  · exact con_good1 b off cap l hl w h

theorem con_good3_all (v : Value) (l : List Int) (hl : l.length < 4294967296) (w : World) (hI : SlInts .i64 w v l) :
    Calls Tryd.prog 86 #[v, .func (.func 87) #[] #[]] w fun e w' => e = .returned (.bool (l.any (fun x => !pageB x))) ∧ Below w.heap.size w w' := by
  rcases hI with ⟨rfl, rfl⟩ | ⟨b, off, cap, rfl, h⟩
  · exact con_good3_nil w
  · exact con_good3 b off cap l hl w h

theorem rise_keys_all (v : Value) (l : List Int) (hl : l.length < 4294967296) (w : World) (hI : SlInts .u32 w v l) :
    Calls Tryd.prog 89 #[v, .func (.func 90) #[] #[]] w fun e w' => e = .returned (.bool (risesB l)) ∧ Below w.heap.size w w' := by
  rcases hI with ⟨rfl, rfl⟩ | ⟨b, off, cap, rfl, h⟩
  · exact rise_keys_nil w
  · exact rise_keys b off cap l hl w h

theorem rise_items_all (v : Value) (l : List It) (hl : l.length < 4294967296) (w : World) (hI : SlItems w v l) :
    Calls Tryd.prog 84 #[v, .func (.func 85) #[] #[]] w fun e w' => e = .returned (.bool (risesB (l.map It.key))) ∧ Below w.heap.size w w' := by
  rcases hI with ⟨rfl, rfl⟩ | ⟨b, off, cap, rfl, h⟩
  · exact rise_items_nil w
  · exact rise_items b off cap l hl w h

end Go.Proofs.YtlpdanghcdajmaaDoor
