/- The laws' marks on descriptions and registries: what they leave, and that no other block turns. -/
import Derived.Test.YtalnekcmfagjoaaDescOwn
import Derived.Test.YtalnekcmfagjoaaWrote
import Derived.Test.YtalnekcmfagjoaaMarkText
namespace Go.Proofs.Ytalnekcmfagjoaa
open Go.RowKit Go.Sort

def mkT (k : Nat) (i : Nat) : Value := .string (markT (k + i))
set_option maxHeartbeats 1000000 in
theorem markStringS_c (A : Option Addr) (n c : Nat) (k : Nat) (xs : List Value) (w0 w : World) (ho : Own 9 1 w0 w (.slice A n c) n xs) (hk : 0 < k) (hk2 : k + n ≤ 1099511627776) :
    Calls Try.prog 72 #[.slice A n c, .int .i64 k] w fun e w' => e = .returned (.int .i64 ((k + n : Nat) : Int)) ∧ Own 9 1 w0 w' (.slice A n c) n ((List.range n).map (mkT k)) ∧ w.grownBy w' (Value.slice A n c).ownBlock := by
  have hxn : xs.length = n := by have := ho.1; omega
  go_enter Try.func72, Try.ntmps72
  go_wp2
  go_loopw [1, 5] (fun kk i wr => ∃ j : Nat, j ≤ n ∧ i = .int .i64 j ∧ kk = .int .i64 ((k + j : Nat) : Int) ∧ Own 9 1 w0 wr (.slice A n c) n ((List.range j).map (mkT k) ++ xs.drop j) ∧ w.grownBy wr (Value.slice A n c).ownBlock) (fun _ i _ => n - (intOf i).toNat)
  case atStart => exact ⟨0, by omega, rfl, by simp, by simpa using ho, World.grownBy.refl _ _⟩
  case round =>
    clear ho
    obtain ⟨j, hj, rfl, rfl, ho, hg⟩ := hrel
    by_cases hlt : j < n
    · obtain ⟨g, c', hv, hb, hs⟩ := World.ownsRow.form ho (by omega)
      injection hv with hA _ hc
      subst hA; subst hc
      have HO := Lib.hid ho; have HG := Lib.hid hg
      clear ho hg
      go_wp2_with fail
      refine (markText_c (k + j) _ (by omega) (by omega)).mono ?_; rintro _ w1 ⟨rfl, he1⟩
      have ho1 := Own.ext HO.out he1
      obtain ⟨⟨u0, hu⟩, hf⟩ := ho1.slot j (by simp; omega)
      have hg2 := (HG.out.trans (grown_ext he1 _)).trans (ho1.stored j (mkT k j)).2
      have ho' := (ho1.stored j (mkT k j)).1
      rw [mark_step (mkT k) xs j n hxn hlt] at ho'
      have H1 := Lib.hid ho'; have H3 := Lib.hid hg2
      clear ho1 ho' hg2 HO HG
      go_wp2
      go_roundw
      case rel => exact ⟨j+1, by omega, by go_num, by go_num, H1.out, H3.out⟩
      case measure => simp [intOf]; omega
    · obtain rfl : j = n := by omega
      have H1 := Lib.hid ho; have H3 := Lib.hid hg
      clear ho hg
      go_wp2
      go_ret
      exact ⟨rfl, by have := H1.out; rw [List.drop_of_length_le (by omega)] at this; simpa using this, H3.out⟩
/-- how many marks a rule takes -/
def mlen (r : DRule) : Nat := 4 + r.bytes.length + r.names.length + r.tags.length + r.kids.length
def mkCells (m : Nat × RV) : List Value := [.string (markT m.1), .int .i64 ((m.1 : Int) + 1), .int .i64 ((m.1 : Int) + 2), .bool (((m.1 : Int) + 3) % 3 == 0), m.2.vb, m.2.vn, m.2.vt, m.2.vk]
def msR : Nat → List RV → List (Nat × RV)
  | _, [] => []
  | k, p :: t => (k, p) :: msR (k + mlen p.r) t
def kEndR : Nat → List RV → Nat
  | k, [] => k
  | k, p :: t => kEndR (k + mlen p.r) t
theorem msR_append (k : Nat) (a b : List RV) : msR k (a ++ b) = msR k a ++ msR (kEndR k a) b := by
  induction a generalizing k with
  | nil => rfl
  | cons p t ih => simp [msR, kEndR, ih]
theorem kEndR_append (k : Nat) (a b : List RV) : kEndR k (a ++ b) = kEndR (kEndR k a) b := by
  induction a generalizing k with
  | nil => rfl
  | cons p t ih => simp [kEndR, ih]
theorem msR_length (k : Nat) (a : List RV) : (msR k a).length = a.length := by
  induction a generalizing k with
  | nil => rfl
  | cons p t ih => simp [msR, ih]
theorem mkCells_len (ms : List (Nat × RV)) : (ms.flatMap mkCells).length = ms.length * 8 := by
  induction ms with
  | nil => rfl
  | cons p t ih => rw [List.flatMap_cons, List.length_append, ih, List.length_cons]; simp [mkCells]; omega
theorem kEndR_ge (k : Nat) (a : List RV) : k ≤ kEndR k a := by
  induction a generalizing k with
  | nil => simp [kEndR]
  | cons p t ih => have := ih (k + mlen p.r); simp only [kEndR]; omega
theorem kEndR_mono (k : Nat) (a : List RV) (i : Nat) : kEndR k (a.take i) ≤ kEndR k a := by
  conv => rhs; rw [← List.take_append_drop i a, kEndR_append]
  exact kEndR_ge _ _
theorem kEndR_eq (k : Nat) (a : List RV) : kEndR k a = k + (a.map fun p => mlen p.r).sum := by
  induction a generalizing k with
  | nil => simp [kEndR]
  | cons p t ih => rw [kEndR, ih, List.map_cons, List.sum_cons]; omega
theorem mlen_le (r : DRule) : mlen r ≤ 4 + szRl r := by unfold mlen szRl; omega
theorem kEndR_sz (k : Nat) (a : List RV) : kEndR k a ≤ k + 4 * a.length + ((rulesOf a).map szRl).sum := by
  rw [kEndR_eq]
  induction a with
  | nil => simp [rulesOf]
  | cons p t ih => have := mlen_le p.r; simp only [List.map_cons, List.sum_cons, List.length_cons, rulesOf] at *; omega
/-- four cells of a rule are laid -/
theorem mark_rowR (ms : List (Nat × RV)) (p : RV) (rest : List RV) (k i : Nat) (hi : ms.length = i) :
    ((((ms.flatMap mkCells ++ (p :: rest).flatMap RV.cells).set (i * 8) (.string (markT k))).set (i * 8 + 1) (.int .i64 ((k : Int) + 1))).set (i * 8 + 2) (.int .i64 ((k : Int) + 2))).set (i * 8 + 3) (.bool (((k : Int) + 3) % 3 == 0)) = (ms ++ [(k, p)]).flatMap mkCells ++ rest.flatMap RV.cells := by
  have hl : (ms.flatMap mkCells).length = i * 8 := by rw [mkCells_len, hi]
  rw [List.set_append_right _ _ (by omega), List.set_append_right _ _ (by omega), List.set_append_right _ _ (by omega), List.set_append_right _ _ (by omega), hl]
  rw [show i * 8 - i * 8 = 0 by omega, show i * 8 + 1 - i * 8 = 1 by omega, show i * 8 + 2 - i * 8 = 2 by omega, show i * 8 + 3 - i * 8 = 3 by omega]
  simp [RV.cells, mkCells, List.flatMap_cons]
theorem mk_getR (ms : List (Nat × RV)) (k : Nat) (p : RV) (rest : List Value) (i m : Nat) (hi : ms.length = i) (hm : m < 8) :
    ((ms ++ [(k, p)]).flatMap mkCells ++ rest)[i * 8 + m]? = (mkCells (k, p))[m]? := by
  have hl : (ms.flatMap mkCells).length = i * 8 := by rw [mkCells_len, hi]
  rw [List.flatMap_append, List.flatMap_cons, List.flatMap_nil, List.append_nil, List.append_assoc, List.getElem?_append_right (by omega), hl, show i * 8 + m - i * 8 = m by omega, List.getElem?_append_left (by simp [mkCells]; omega)]
/-- a rule's slices, marked from k on -/
structure RuleMarked (w0 w : World) (k : Nat) (p : RV) : Prop where
  b : Own 5 1 w0 w p.vb p.r.bytes.length ((List.range p.r.bytes.length).map (mk8 ((k : Int) + 4)))
  n : Own 9 1 w0 w p.vn p.r.names.length ((List.range p.r.names.length).map (mkT (k + 4 + p.r.bytes.length)))
  t : Own 3 1 w0 w p.vt p.r.tags.length ((List.range p.r.tags.length).map (mkI ((k + 4 + p.r.bytes.length + p.r.names.length : Nat) : Int)))
  k : Own 3 1 w0 w p.vk p.r.kids.length ((List.range p.r.kids.length).map (mkI ((k + 4 + p.r.bytes.length + p.r.names.length + p.r.tags.length : Nat) : Int)))
theorem RuleMarked.keep {w0 w w' : World} {k : Nat} {p : RV} (h : RuleMarked w0 w k p) {row : Option Nat} (hg : w.grownBy w' row) (hne : ∀ v ∈ p.vals, ∀ g, v.ownBlock = some g → row ≠ some g) : RuleMarked w0 w' k p :=
  ⟨h.b.keep hg (hne _ (by simp [RV.vals])), h.n.keep hg (hne _ (by simp [RV.vals])), h.t.keep hg (hne _ (by simp [RV.vals])), h.k.keep hg (hne _ (by simp [RV.vals]))⟩
theorem RuleMarked.ext {w0 w w' : World} {k : Nat} {p : RV} (h : RuleMarked w0 w k p) (e : Ext w w') : RuleMarked w0 w' k p := ⟨h.b.ext e, h.n.ext e, h.t.ext e, h.k.ext e⟩
/-- marked rules that the call since w0 made: the first i of them are marked -/
structure MarkingR (w0 w : World) (g c : Nat) (ps : List RV) (k i : Nat) : Prop where
  row : Own 70 8 w0 w (.slice (some ⟨g, 0, none⟩) ps.length c) ps.length ((msR k (ps.take i)).flatMap mkCells ++ (ps.drop i).flatMap RV.cells)
  done : ∀ j (h : j < ps.length), j < i → RuleMarked w0 w (kEndR k (ps.take j)) ps[j]
  todo : ∀ j (h : j < ps.length), i ≤ j → RuleOwn w0 w ps[j]
theorem far_parts {v : Value} {ps : List RV} (h : Far (v :: ps.flatMap RV.vals)) :
    (∀ j (hj : j < ps.length), ∀ u ∈ ps[j].vals, ∀ g, v.ownBlock = some g → u.ownBlock ≠ some g) ∧ (∀ i j (hi : i < ps.length) (hj : j < ps.length), i ≠ j → ∀ u ∈ ps[i].vals, ∀ x ∈ ps[j].vals, ∀ g, u.ownBlock = some g → x.ownBlock ≠ some g) ∧ (∀ j (hj : j < ps.length), Far ps[j].vals) := by
  unfold Far at h
  rw [List.pairwise_cons] at h
  obtain ⟨h1, h2⟩ := h
  rw [List.pairwise_flatMap] at h2
  refine ⟨fun j hj u hu g hg => h1 u (List.mem_flatMap.2 ⟨_, List.getElem_mem hj, hu⟩) g hg, fun i j hi hj hne u hu x hx g hg hg' => ?_, fun j hj => h2.1 _ (List.getElem_mem hj)⟩
  have hp := List.pairwise_iff_getElem.1 h2.2
  rcases Nat.lt_or_ge i j with hlt | hge
  · exact hp i j hi hj hlt u hu x hx g hg hg'
  · exact hp j i hj hi (by omega) x hx u hu g hg' hg
theorem far4 {p : RV} (h : Far p.vals) : (∀ g, p.vb.ownBlock = some g → p.vn.ownBlock ≠ some g) ∧ (∀ g, p.vb.ownBlock = some g → p.vt.ownBlock ≠ some g) ∧ (∀ g, p.vb.ownBlock = some g → p.vk.ownBlock ≠ some g) ∧
    (∀ g, p.vn.ownBlock = some g → p.vt.ownBlock ≠ some g) ∧ (∀ g, p.vn.ownBlock = some g → p.vk.ownBlock ≠ some g) ∧ (∀ g, p.vt.ownBlock = some g → p.vk.ownBlock ≠ some g) := by
  unfold Far RV.vals at h
  rw [List.pairwise_cons, List.pairwise_cons, List.pairwise_cons] at h
  obtain ⟨h1, h2, h3, _⟩ := h
  exact ⟨fun g hg => h1 _ (by simp) g hg, fun g hg => h1 _ (by simp) g hg, fun g hg => h1 _ (by simp) g hg, fun g hg => h2 _ (by simp) g hg, fun g hg => h2 _ (by simp) g hg, fun g hg => h3 _ (by simp) g hg⟩
theorem len_mlen : ∀ ps : List RV, ps.length ≤ (ps.map fun p => mlen p.r).sum
  | [] => by simp
  | p :: t => by
    have := len_mlen t
    have h : 1 ≤ mlen p.r := by unfold mlen; omega
    simp only [List.map_cons, List.sum_cons, List.length_cons]; omega
theorem cells_getR (ms : List (Nat × RV)) (p : RV) (rest : List RV) (i m : Nat) (hi : ms.length = i) (hm : m < 8) :
    (ms.flatMap mkCells ++ (p :: rest).flatMap RV.cells)[i * 8 + m]? = p.cells[m]? := by
  have hl : (ms.flatMap mkCells).length = i * 8 := by rw [mkCells_len, hi]
  rw [List.getElem?_append_right (by omega), hl, show i * 8 + m - i * 8 = m by omega, List.flatMap_cons, List.getElem?_append_left (by simp [RV.cells]; omega)]
end Go.Proofs.Ytalnekcmfagjoaa
