/- Texts joined: Wo2. -/
import Derived.Test.YtnddfiohofnbaaaJn4
import Derived.Deep.Cut
import Derived.Deep.CutRange
import Derived.Deep.RegionHeld3
/- Worlds: bare, of the things that are made here. -/
namespace Go.Proofs.Ytnddfiohofnbaaa
open Go.RowKit

/-- A thing's sixteen cells, written out. -/
def th16 (kind home k n : Int) (s : ByteArray) (A : Option Addr) (len cap : Nat) (r n1 lost ofr byr set : Int) (full : Bool) : Array Value :=
  #[.int .u8 kind, .int .i64 home, .int .u8 k, .int .i64 n, .string s, .slice A len cap, .int .i64 r, .slice none 0 0, .int .i64 n1, .int .i64 lost, .int .i64 ofr, .int .i64 byr, .int .u8 set, .bool full, .slice none 0 0, .slice none 0 0]

/-- A thing of a kind that is made here, with just the fields of its kind. -/
def Th.Pl (x : Th) : Prop := x.n = 0 ∧ x.lost = 0 ∧ x.set = 0 ∧
  ((x.kind = 1 ∧ x.ofr = 0 ∧ x.byr = 0 ∧ x.full = false) ∨ (x.kind = 2 ∧ x.ofr = 0 ∧ x.byr = 0 ∧ x.full = false ∧ x.v = T.zero) ∨ (x.kind = 5 ∧ x.ofr = 0 ∧ x.byr = 0 ∧ x.full = false ∧ x.v = T.zero) ∨
    (x.kind = 6 ∧ x.byr = 0 ∧ x.full = false ∧ x.v = T.zero) ∨ (x.kind = 7 ∧ x.byr = 0 ∧ x.full = false) ∨ (x.kind = 13 ∧ x.byr = 0 ∧ x.v = T.zero) ∨ (x.kind = 15 ∧ x.full = false ∧ x.v = T.zero))

set_option maxRecDepth 100000 in
set_option maxHeartbeats 4000000 in
theorem bare5 (home : Int) (W : World) :
    Calls Try.prog 91 #[.agg (th16 5 home 0 0 ⟨#[]⟩ none 0 0 0 0 0 0 0 0 false)] W fun e w' => e = .returned (.agg (th16 5 home 0 0 ⟨#[]⟩ none 0 0 0 0 0 0 0 0 false)) ∧ Fr No W w' := by
  unfold th16
  go_enter Try.func91, Try.ntmps91
  go_wp2_with fail
  refine bodyPost_ret (v := .agg (th16 5 home 0 0 ⟨#[]⟩ none 0 0 0 0 0 0 0 0 false)) (by simp [results, Try.results91, th16, go_sem, *]) rfl ⟨rfl, ?_⟩
  repeat (first | with_reducible exact Fr.refl No W | with_reducible refine Fr.drew ?_ | with_reducible refine Fr.alloc ?_ _ | with_reducible refine Fr.setNew ?_ (by first | (simp; done) | (simp; omega)) _)

set_option maxRecDepth 100000 in
set_option maxHeartbeats 4000000 in
theorem bare6 (home : Int) (ofr : Int) (W : World) :
    Calls Try.prog 91 #[.agg (th16 6 home 0 0 ⟨#[]⟩ none 0 0 0 0 0 ofr 0 0 false)] W fun e w' => e = .returned (.agg (th16 6 home 0 0 ⟨#[]⟩ none 0 0 0 0 0 ofr 0 0 false)) ∧ Fr No W w' := by
  unfold th16
  go_enter Try.func91, Try.ntmps91
  go_wp2_with fail
  refine bodyPost_ret (v := .agg (th16 6 home 0 0 ⟨#[]⟩ none 0 0 0 0 0 ofr 0 0 false)) (by simp [results, Try.results91, th16, go_sem, *]) rfl ⟨rfl, ?_⟩
  repeat (first | with_reducible exact Fr.refl No W | with_reducible refine Fr.drew ?_ | with_reducible refine Fr.alloc ?_ _ | with_reducible refine Fr.setNew ?_ (by first | (simp; done) | (simp; omega)) _)

set_option maxRecDepth 100000 in
set_option maxHeartbeats 4000000 in
theorem bare7 (home : Int) (k n : Int) (s : ByteArray) (A : Option Addr) (len cap : Nat) (r : Int) (ofr : Int) (W : World) :
    Calls Try.prog 91 #[.agg (th16 7 home k n s A len cap r 0 0 ofr 0 0 false)] W fun e w' => e = .returned (.agg (th16 7 home k n s A len cap r 0 0 ofr 0 0 false)) ∧ Fr No W w' := by
  unfold th16
  go_enter Try.func91, Try.ntmps91
  go_upto_region 14 with (fail)
  go_region
  all_goals
    go_simp
    go_wp2_with fail
    refine bodyPost_ret (v := .agg (th16 7 home k n s A len cap r 0 0 ofr 0 0 false)) (by simp [results, Try.results91, th16, go_sem, *]) rfl ⟨rfl, ?_⟩
    repeat (first | with_reducible exact Fr.refl No W | with_reducible refine Fr.drew ?_ | with_reducible refine Fr.alloc ?_ _ | with_reducible refine Fr.setNew ?_ (by first | (simp; done) | (simp; omega)) _)

end Go.Proofs.Ytnddfiohofnbaaa
