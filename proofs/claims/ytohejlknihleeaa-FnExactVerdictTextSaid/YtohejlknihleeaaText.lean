/- The text of a verdict. -/
import Derived.Test.YtohejlknihleeaaEnc
import Derived.Test.YtohejlknihleeaaVerdict
import Derived.Test.YtohejlknihleeaaShelf
namespace Go.Proofs.Ytohejlknihleeaa
open Go.RowKit Go.Sort

/-- the names of the errors -/
def errTab : List ByteArray := [⟨#[111, 107]⟩, ⟨#[115, 104, 111, 114, 116]⟩, ⟨#[99, 111, 110, 115, 116]⟩, ⟨#[116, 97, 103]⟩, ⟨#[102, 108, 97, 103]⟩, ⟨#[115, 117, 109]⟩, ⟨#[99, 111, 117, 110, 116]⟩, ⟨#[116, 114, 97, 105, 108, 105, 110, 103]⟩, ⟨#[114, 117, 108, 101]⟩]
def errName (k : Int) : ByteArray := if 0 ≤ k ∧ k ≤ 8 then errTab.getD k.toNat ⟨#[]⟩ else ⟨#[]⟩
theorem errName_size (k : Int) : (errName k).size ≤ 8 := by
  unfold errName
  split
  · rename_i h
    obtain ⟨j, rfl⟩ : ∃ j : Nat, k = j := ⟨k.toNat, by omega⟩
    rcases (by omega : j = 0 ∨ j = 1 ∨ j = 2 ∨ j = 3 ∨ j = 4 ∨ j = 5 ∨ j = 6 ∨ j = 7 ∨ j = 8) with rfl | rfl | rfl | rfl | rfl | rfl | rfl | rfl | rfl <;> decide
  · decide
theorem errName_cell {k : Int} (h : 0 ≤ k ∧ k ≤ 8) : (#[Value.string ⟨#[111, 107]⟩, .string ⟨#[115, 104, 111, 114, 116]⟩, .string ⟨#[99, 111, 110, 115, 116]⟩, .string ⟨#[116, 97, 103]⟩, .string ⟨#[102, 108, 97, 103]⟩, .string ⟨#[115, 117, 109]⟩, .string ⟨#[99, 111, 117, 110, 116]⟩, .string ⟨#[116, 114, 97, 105, 108, 105, 110, 103]⟩, .string ⟨#[114, 117, 108, 101]⟩] : Array Value)[k.toNat]? = some (.string (errName k)) := by
  unfold errName
  rw [if_pos h]
  obtain ⟨j, rfl⟩ : ∃ j : Nat, k = j := ⟨k.toNat, by omega⟩
  rcases (by omega : j = 0 ∨ j = 1 ∨ j = 2 ∨ j = 3 ∨ j = 4 ∨ j = 5 ∨ j = 6 ∨ j = 7 ∨ j = 8) with rfl | rfl | rfl | rfl | rfl | rfl | rfl | rfl | rfl <;> rfl
def yesT (b : Bool) : ByteArray := if b then ⟨#[121, 101, 115]⟩ else ⟨#[110, 111]⟩
theorem yesT_size (b : Bool) : (yesT b).size ≤ 3 := by cases b <;> decide
set_option maxHeartbeats 400000 in
theorem sYes_c (b : Bool) (w : World) : Gives Try.prog 73 #[.bool b] w (.string (yesT b)) := by
  cases b
  all_goals
    go_enter Try.func73, Try.ntmps73
    go_wp2
    go_ret
    exact ⟨rfl, Ext.refl _⟩

set_option maxHeartbeats 400000 in
theorem iYes_c (b : Bool) (w : World) : Gives Try.prog 76 #[.bool b] w (.string (yesT b)) := by
  cases b
  all_goals
    go_enter Try.func76, Try.ntmps76
    go_wp2
    go_ret
    exact ⟨rfl, Ext.refl _⟩
set_option maxRecDepth 100000 in
set_option maxHeartbeats 1000000 in
theorem sErrorName_c (k : Int) (w : World) : Gives Try.prog 72 #[.int .i64 k] w (.string (errName k)) := by
  by_cases h0 : 0 ≤ k ∧ k ≤ 8
  · have hc := errName_cell h0
    have hq : (decide ((0 : Int) ≤ k) && decide (k ≤ 8)) = true := by simp; omega
    have HQ := Lib.hid hq; clear hq
    obtain ⟨j, rfl⟩ : ∃ j : Nat, k = j := ⟨k.toNat, by omega⟩
    rw [Int.toNat_natCast] at hc
    have KC := Lib.hid (fun (w' : World) (e : Ext (w.alloc (.cells #[Value.string ⟨#[111, 107]⟩, .string ⟨#[115, 104, 111, 114, 116]⟩, .string ⟨#[99, 111, 110, 115, 116]⟩, .string ⟨#[116, 97, 103]⟩, .string ⟨#[102, 108, 97, 103]⟩, .string ⟨#[115, 117, 109]⟩, .string ⟨#[99, 111, 117, 110, 116]⟩, .string ⟨#[116, 114, 97, 105, 108, 105, 110, 103]⟩, .string ⟨#[114, 117, 108, 101]⟩] 9)) w') => (boxed e j).trans hc)
    clear hc
    go_enter Try.func72, Try.ntmps72
    go_wp2_with fail
    refine (l1In_c _ _ _ _).mono ?_; rintro _ w1 ⟨rfl, he⟩; rw [HQ.out]
    have kc := KC.out w1 he
    have hj : (j : Int) < 9 := by omega
    clear KC
    go_wp2_with fail
    go_ret
    exact ⟨rfl, (Ext_alloc _ (Ext.refl _)).trans he⟩
  · have hE : errName k = ⟨#[]⟩ := if_neg h0
    have hq : (decide ((0 : Int) ≤ k) && decide (k ≤ 8)) = false := by simp; omega
    have HQ := Lib.hid hq; clear hq
    rw [hE]
    go_enter Try.func72, Try.ntmps72
    go_wp2_with fail
    refine (l1In_c _ _ _ _).mono ?_; rintro _ w1 ⟨rfl, he⟩; rw [HQ.out]
    go_wp2_with fail
    go_ret
    exact ⟨rfl, (Ext_alloc _ (Ext.refl _)).trans he⟩
set_option maxRecDepth 100000 in
set_option maxHeartbeats 1000000 in
theorem iErrorName_c (k : Int) (w : World) : Gives Try.prog 75 #[.int .i64 k] w (.string (errName k)) := by
  by_cases h0 : 0 ≤ k ∧ k ≤ 8
  · have hc := errName_cell h0
    have hq : (decide ((0 : Int) ≤ k) && decide (k ≤ 8)) = true := by simp; omega
    have HQ := Lib.hid hq; clear hq
    obtain ⟨j, rfl⟩ : ∃ j : Nat, k = j := ⟨k.toNat, by omega⟩
    rw [Int.toNat_natCast] at hc
    have hj : (j : Int) < 9 := by omega
    go_enter Try.func75, Try.ntmps75
    go_wp2_with fail
    refine (iInRange_c _ _ _ _).mono ?_; rintro _ w1 ⟨rfl, he⟩; rw [HQ.out]
    have KC : ∀ (w' : World), Ext (w1.alloc (.cells #[Value.string ⟨#[111, 107]⟩, .string ⟨#[115, 104, 111, 114, 116]⟩, .string ⟨#[99, 111, 110, 115, 116]⟩, .string ⟨#[116, 97, 103]⟩, .string ⟨#[102, 108, 97, 103]⟩, .string ⟨#[115, 117, 109]⟩, .string ⟨#[99, 111, 117, 110, 116]⟩, .string ⟨#[116, 114, 97, 105, 108, 105, 110, 103]⟩, .string ⟨#[114, 117, 108, 101]⟩] 9)) w' → w'.cell? ⟨w1.heap.size, j, none⟩ = some (.string (errName j)) := fun w' e => (boxed e j).trans hc
    have kc := KC _ (Ext.refl _)
    clear hc KC
    go_wp2_with fail
    go_ret
    exact ⟨rfl, Ext_alloc _ he⟩
  · have hE : errName k = ⟨#[]⟩ := if_neg h0
    have hq : (decide ((0 : Int) ≤ k) && decide (k ≤ 8)) = false := by simp; omega
    have HQ := Lib.hid hq; clear hq
    rw [hE]
    go_enter Try.func75, Try.ntmps75
    go_wp2_with fail
    refine (iInRange_c _ _ _ _).mono ?_; rintro _ w1 ⟨rfl, he⟩; rw [HQ.out]
    go_wp2_with fail
    go_ret
    exact ⟨rfl, he⟩
def sp1 : ByteArray := ⟨#[32]⟩
def VerdictD.text (x : VerdictD) : ByteArray := errName x.parser ++ ⟨#[32]⟩ ++ errName x.validator ++ ⟨#[32]⟩ ++ errName x.machine ++ ⟨#[32]⟩ ++ yesT x.index ++ ⟨#[32]⟩ ++ yesT x.lazy_
theorem join5 (a b c d e : ByteArray) : (⟨(Lib.join ([a, b, c, d, e].map (·.data.toList)) (⟨#[32]⟩ : ByteArray).data.toList).toArray⟩ : ByteArray) = a ++ ⟨#[32]⟩ ++ b ++ ⟨#[32]⟩ ++ c ++ ⟨#[32]⟩ ++ d ++ ⟨#[32]⟩ ++ e := by
  apply ByteArray.ext
  simp [Lib.join, ByteArray.data_append]
theorem iJoinText_c (bk c : Nat) (xs : List ByteArray) (sep : ByteArray) (w : World) (hcells : ∀ (j : Nat) x, xs[j]? = some x → w.cell? ⟨bk, 0 + j, none⟩ = some (.string x)) (hbk : bk < w.heap.size) (hN : xs.length ≤ 1000) (hcap : xs.length ≤ c)
    (hlen : (Lib.join (xs.map (·.data.toList)) sep.data.toList).length ≤ 140737488355328) :
    Gives Try.prog 74 #[.slice (some ⟨bk, 0, none⟩) xs.length c, .string sep] w (.string ⟨(Lib.join (xs.map (·.data.toList)) sep.data.toList).toArray⟩) := by
  have C := Lib.hid (Try.strings_Join bk 0 c xs sep w hcells hbk (by omega) hcap hlen)
  go_enter Try.func74, Try.ntmps74
  go_wp2_with fail
  refine C.out.mono ?_; rintro _ w1 ⟨rfl, he⟩
  go_wp2
  go_ret
  exact ⟨rfl, he⟩
end Go.Proofs.Ytohejlknihleeaa
