/- Stored files: what a slice of them reads as, the laws' comparison and marks. (Printed by gen/gx17.py.) -/
import Derived.Test.YtlaejcacembjiaaZFn4
import Derived.Defers
import Derived.Recover
import Derived.Laws.Pointers
import Derived.Deep.RegionHeld3
import Derived.Deep.DeepCutAuto
set_option linter.unusedVariables false
set_option linter.unusedSimpArgs false
namespace Go.Proofs.Ytlaejcacembjiaa
open Go.RowKit Go.Sort

structure DFile where
  nm : ByteArray
  ver : Int
  l : List UInt8
def vfile (nm : ByteArray) (ver : Int) (v : Value) : Value := .agg #[.string nm, .int .i64 ver, v]
theorem E_file : Elem Try.prog 65 102 3 48 (.agg #[.string ⟨#[]⟩, .int .i64 0, .slice none 0 0]) := ⟨Try.underlying65, by kernel_rfl, rfl, by omega⟩
/-- the cells of files, each with its data's slice -/
def fcells (p : DFile × Value) : List Value := [.string p.1.nm, .int .i64 p.1.ver, p.2]
theorem fcells_len (ps : List (DFile × Value)) : (ps.flatMap fcells).length = ps.length * 3 := by
  induction ps with
  | nil => rfl
  | cons p t ih => rw [List.flatMap_cons, List.length_append, ih, List.length_cons]; simp [fcells]; omega
/-- files that the call since w0 made, each with data of its own -/
def OwnF (w0 w : World) (v : Value) (ps : List (DFile × Value)) : Prop :=
  Own 102 3 w0 w v ps.length (ps.flatMap fcells) ∧ (∀ p ∈ ps, OwnL vu8 5 w0 w p.2 p.1.l) ∧ Apart (v :: ps.map Prod.snd)
theorem OwnF.ext {w0 w w' : World} {v : Value} {ps : List (DFile × Value)} (h : OwnF w0 w v ps) (e : Ext w w') : OwnF w0 w' v ps :=
  ⟨Own.ext h.1 e, fun p hp => OwnL.ext (h.2.1 p hp) e, h.2.2⟩
theorem OwnF.lower {w0 w1 w : World} {v : Value} {ps : List (DFile × Value)} (h : OwnF w1 w v ps) (e : Ext w0 w1) : OwnF w0 w v ps :=
  ⟨World.ownsRow.lower h.1 e.size, fun p hp => OwnL.lower (h.2.1 p hp) e, h.2.2⟩
theorem OwnF.shape {w0 w : World} {v : Value} {ps : List (DFile × Value)} (h : OwnF w0 w v ps) : ∃ A c, v = .slice A ps.length c := by
  rcases h.1.2 with ⟨rfl, hn⟩ | ⟨g, cap, _, rfl, _⟩
  · exact ⟨none, 0, by rw [hn]⟩
  · exact ⟨_, _, rfl⟩
/-- a row behind an append: the same block, or the newest -/
theorem OwnF.push {w0 w1 w2 : World} {v v' : Value} {ps : List (DFile × Value)} {p : DFile × Value} (h : OwnF w0 w1 v ps) (hp : OwnL vu8 5 w0 w1 p.2 p.1.l)
    (hnew : ∀ q ∈ ps, ∀ g, q.2.ownBlock = some g → p.2.ownBlock ≠ some g) (hv : ∀ g, v.ownBlock = some g → p.2.ownBlock ≠ some g)
    (ho : Own 102 3 w0 w2 v' (ps.length + 1) (ps.flatMap fcells ++ fcells p)) (hb : v'.ownBlock = v.ownBlock ∨ v'.ownBlock = some w1.heap.size) (hg : w1.grownBy w2 v.ownBlock) : OwnF w0 w2 v' (ps ++ [p]) := by
  have hap := h.2.2
  unfold Apart at hap
  rw [List.pairwise_cons] at hap
  refine ⟨by simpa [List.flatMap_append, List.flatMap_cons] using ho, ?_, ?_⟩
  · intro q hq
    have hlast : ∀ q : DFile × Value, OwnL vu8 5 w0 w1 q.2 q.1.l → (∀ g, v.ownBlock = some g → q.2.ownBlock ≠ some g) → OwnL vu8 5 w0 w2 q.2 q.1.l := by
      intro q hq hne
      refine World.ownsRow.kept hq hg ?_
      cases hb' : q.2.ownBlock with
      | none => exact .inl rfl
      | some g => right; intro hvv; exact hne g hvv.symm hb'
    rcases List.mem_append.1 hq with hq | hq
    · exact hlast q (h.2.1 q hq) (fun g hg => hap.1 q.2 (List.mem_map_of_mem hq) g hg)
    · rw [List.mem_singleton.1 hq]; exact hlast p hp hv
  · have hlt : ∀ q ∈ ps ++ [p], ∀ g, q.2.ownBlock = some g → g < w1.heap.size := by
      intro q hq g hg'
      rcases List.mem_append.1 hq with hq | hq
      · exact OwnL.block (h.2.1 q hq) g hg'
      · rw [List.mem_singleton.1 hq] at hg'; exact OwnL.block hp g hg'
    have hne : ∀ q ∈ ps ++ [p], ∀ g, v.ownBlock = some g → q.2.ownBlock ≠ some g := by
      intro q hq g hg'
      rcases List.mem_append.1 hq with hq | hq
      · exact hap.1 q.2 (List.mem_map_of_mem hq) g hg'
      · rw [List.mem_singleton.1 hq]; exact hv g hg'
    unfold Apart
    rw [List.pairwise_cons, List.map_append, List.pairwise_append]
    refine ⟨?_, hap.2, by simp, ?_⟩
    · intro u hu g hg' hu'
      rw [← List.map_append] at hu
      obtain ⟨q, hq, rfl⟩ := List.mem_map.1 hu
      rcases hb with hb | hb
      · rw [hb] at hg'; exact hne q hq g hg' hu'
      · rw [hb] at hg'; injection hg' with hg'; subst hg'; exact absurd (hlt q hq _ hu') (Nat.lt_irrefl _)
    · intro u hu u' hu' g hg' hg''
      obtain ⟨q, hq, rfl⟩ := List.mem_map.1 hu
      have : u' = p.2 := by simpa using hu'
      subst this
      exact hnew q hq g hg' hg''

theorem fcells_get : ∀ (ps : List (DFile × Value)) (i j : Nat) (h : i < ps.length), j < 3 → (ps.flatMap fcells)[i * 3 + j]? = (fcells ps[i])[j]? := by
  intro ps
  induction ps with
  | nil => intro i j h; simp at h
  | cons p t ih =>
    intro i j h hj
    rw [List.flatMap_cons]
    cases i with
    | zero =>
      rw [List.getElem?_append_left (by simp [fcells]; omega)]
      simp
    | succ i =>
      rw [List.getElem?_append_right (by simp [fcells]; omega)]
      have : (i + 1) * 3 + j - (fcells p).length = i * 3 + j := by simp [fcells]; omega
      rw [this, ih i j (by simpa using h) hj]
      simp
/-- a slice of files that reads as ps -/
def RdF (w : World) (A : Option Addr) (ps : List (DFile × Value)) (c : Nat) : Prop :=
  ps.length ≤ c ∧ ps.length ≤ 1099511627776 ∧ (∀ p ∈ ps, ∃ A' c', p.2 = .slice A' p.1.l.length c' ∧ Bs w A' p.1.l c') ∧
  (0 < ps.length → ∃ b, A = some ⟨b, 0, none⟩ ∧ b < w.heap.size ∧ ∀ (w' : World), Ext w w' → ∀ i (h : i < ps.length), w'.cell? ⟨b, i * 3, none⟩ = some (.string ps[i].1.nm) ∧ w'.cell? ⟨b, i * 3 + 1, none⟩ = some (.int .i64 ps[i].1.ver) ∧
    w'.cell? ⟨b, i * 3 + 2, none⟩ = some ps[i].2)
theorem RdF.ext {w w1 : World} {A : Option Addr} {ps : List (DFile × Value)} {c : Nat} (h : RdF w A ps c) (e : Ext w w1) : RdF w1 A ps c :=
  ⟨h.1, h.2.1, fun p hp => let ⟨A', c', h1, h2⟩ := h.2.2.1 p hp; ⟨A', c', h1, h2.ext e⟩, fun hp => let ⟨b, h1, h2, h3⟩ := h.2.2.2 hp; ⟨b, h1, Nat.lt_of_lt_of_le h2 e.size, fun w' e' => h3 w' (e.trans e')⟩⟩
theorem OwnF.rd {w0 w : World} {v : Value} {ps : List (DFile × Value)} (h : OwnF w0 w v ps) (hl : ps.length ≤ 1099511627776) (hd : ∀ p ∈ ps, p.1.l.length ≤ 140737488351232) : ∃ A c, v = .slice A ps.length c ∧ RdF w A ps c := by
  have hdat : ∀ p ∈ ps, ∃ A' c', p.2 = .slice A' p.1.l.length c' ∧ Bs w A' p.1.l c' := fun p hp => OwnL.rd (h.2.1 p hp) (hd p hp)
  rcases h.1.2 with ⟨rfl, h0⟩ | ⟨g, cap, cur, rfl, hb, hg, hnc, hcm, hcs, htake⟩
  · exact ⟨none, 0, by rw [h0], by omega, hl, hdat, fun hp => by omega⟩
  · refine ⟨_, _, rfl, by omega, hl, hdat, fun hp => ⟨g, rfl, heap_lt hg, fun w' e i hi => ?_⟩⟩
    have hc : ∀ j, j < 3 → w'.cell? ⟨g, i * 3 + j, none⟩ = (fcells ps[i])[j]? := by
      intro j hj
      rw [boxed_at hg e, ← fcells_get ps i j hi hj, ← htake, List.getElem?_take, if_pos (by omega)]
      simp
    exact ⟨by have := hc 0 (by omega); simpa [fcells] using this, by have := hc 1 (by omega); simpa [fcells] using this, by have := hc 2 (by omega); simpa [fcells] using this⟩
set_option maxHeartbeats 2000000 in
theorem eqFile_c (nm : ByteArray) (ver : Int) (A : Option Addr) (l : List UInt8) (c : Nat) (A' : Option Addr) (c' : Nat) (w : World) (h : Bs w A l c) (h' : Bs w A' l c') :
    Gives Try.prog 88 #[vfile nm ver (.slice A l.length c), vfile nm ver (.slice A' l.length c')] w (.bool true) := by
  have C := Lib.hid (fun w h h' => eqByteS_c A A' l l c c' w h h')
  rw [show (l == l) = true by simp] at C
  unfold vfile
  have g2 : (nm.toList != nm.toList) = false := by simp
  have g3 : (ver != ver) = false := by simp
  go_enter Try.func88, Try.ntmps88
  go_wp2_with (go_at_call 119; refine (C.out _ (h.ext (Ext_alloc _ (Ext_alloc _ (Ext.refl w)))) (h'.ext (Ext_alloc _ (Ext_alloc _ (Ext.refl w))))).mono ?_; rintro _ w1 ⟨rfl, he⟩)
  go_ret
  exact ⟨ret_bool (by simp), (Ext_alloc _ (Ext_alloc _ (Ext.refl w))).trans he⟩
set_option maxRecDepth 100000 in
set_option maxHeartbeats 1000000 in
theorem eqFiles_c (A A' : Option Addr) (ps qs : List (DFile × Value)) (c c' : Nat) (w : World) (h : RdF w A ps c) (h' : RdF w A' qs c') (he : ps.map Prod.fst = qs.map Prod.fst) :
    Gives Try.prog 37 #[.slice A ps.length c, .slice A' qs.length c'] w (.bool true) := by
  have hlen : ps.length = qs.length := by have := congrArg List.length he; simpa using this
  have hn := h.2.1
  have HQ : Hid (((ps.length : Int) != (qs.length : Int)) = false) := by show _ = _; simp [hlen]
  have hq1 := HQ.out
  have HL := Lib.hid hlen; clear hlen
  go_enter Try.func37, Try.ntmps37
  go_wp2
  go_loopw [5] (fun i wr => ∃ k : Nat, k ≤ ps.length ∧ i = .int .i64 k ∧ Ext w wr) (fun i _ => ps.length - (intOf i).toNat)
  case atStart => exact ⟨0, by omega, rfl, Ext.refl _⟩
  case round =>
    obtain ⟨k, hk, rfl, hx⟩ := hrel
    by_cases hlt : k < ps.length
    · have hlt' : k < qs.length := by have := HL.out; omega
      obtain ⟨b, rfl, hb, hc⟩ := h.2.2.2 (by omega)
      obtain ⟨b', rfl, hb', hc'⟩ := h'.2.2.2 (by omega)
      obtain ⟨A1, c1, hv1, r1⟩ := h.2.2.1 ps[k] (List.getElem_mem hlt)
      obtain ⟨A2, c2, hv2, r2⟩ := h'.2.2.1 qs[k] (List.getElem_mem hlt')
      have hck := fun w' e => hc w' e k hlt
      have hck' := fun w' e => hc' w' e k hlt'
      have hee : ps[k].1 = qs[k].1 := by
        have h1 : (ps.map Prod.fst)[k]? = (qs.map Prod.fst)[k]? := by rw [he]
        simpa [hlt, hlt'] using h1
      rw [hv1] at hck; rw [hv2] at hck'
      obtain ⟨r, hr⟩ : ∃ r, qs[k].1 = r := ⟨_, rfl⟩
      rw [hr] at hck' r2 hee
      rw [hee] at hck r1
      obtain ⟨nm, ver, d⟩ := r
      dsimp only at hck hck' r1 r2
      have CE := Lib.hid (fun w h h' => eqFile_c nm ver A1 d c1 A2 c2 w h h')
      unfold vfile at CE
      have hk0 := fun w' e => (hck w' e).1; have hk1 := fun w' e => (hck w' e).2.1; have hk2 := fun w' e => (hck w' e).2.2
      have hj0 := fun w' e => (hck' w' e).1; have hj1 := fun w' e => (hck' w' e).2.1; have hj2 := fun w' e => (hck' w' e).2.2
      clear hck hck' hc hc' h h' hv1 hv2 hee hr he
      go_wp2_with fail
      refine wp_region_quiet_below (by kernel_rfl) (by kernel_rfl) ?_
      repeat (go_big_quiet_step ((go_at_call 88; exact Calls.regrown_of (CE.out _ (r1.ext (by first | assumption | exact Ext_regrown _ _ hx)) (r2.ext (by first | assumption | exact Ext_regrown _ _ hx))))))
      refine wpQuiet_nil ?_
      rintro w1 ⟨⟨nq, osq⟩, hq⟩
      have ew1 := ext_of_q hq
      clear hq nq osq
      go_wp2
      go_roundw
      case rel => exact ⟨k+1, by omega, by go_num, hx.trans ew1⟩
      case measure => simp [intOf]; omega
    · obtain rfl : k = ps.length := by omega
      go_wp2
      go_ret
      exact ⟨rfl, hx⟩
/-- where the marks of a file begin, how many bytes it has, its data's slice -/
def mcellsF (m : Nat × Nat × Value) : List Value := [.string (markT m.1), .int .i64 ((m.1 : Int) + 1), m.2.2]
def msOfF : Nat → List (DFile × Value) → List (Nat × Nat × Value)
  | _, [] => []
  | k, p :: t => (k, p.1.l.length, p.2) :: msOfF (k + 2 + p.1.l.length) t
def kEndF : Nat → List (DFile × Value) → Nat
  | k, [] => k
  | k, p :: t => kEndF (k + 2 + p.1.l.length) t
theorem msOfF_append (k : Nat) (a b : List (DFile × Value)) : msOfF k (a ++ b) = msOfF k a ++ msOfF (kEndF k a) b := by
  induction a generalizing k with
  | nil => rfl
  | cons p t ih => simp [msOfF, kEndF, ih]
theorem kEndF_append (k : Nat) (a b : List (DFile × Value)) : kEndF k (a ++ b) = kEndF (kEndF k a) b := by
  induction a generalizing k with
  | nil => rfl
  | cons p t ih => simp [kEndF, ih]
theorem msOfF_length (k : Nat) (a : List (DFile × Value)) : (msOfF k a).length = a.length := by
  induction a generalizing k with
  | nil => rfl
  | cons p t ih => simp [msOfF, ih]
theorem mcellsF_len (ms : List (Nat × Nat × Value)) : (ms.flatMap mcellsF).length = ms.length * 3 := by
  induction ms with
  | nil => rfl
  | cons p t ih => rw [List.flatMap_cons, List.length_append, ih, List.length_cons]; simp [mcellsF]; omega
theorem kEndF_ge (k : Nat) (a : List (DFile × Value)) : k + 2 * a.length ≤ kEndF k a := by
  induction a generalizing k with
  | nil => simp [kEndF]
  | cons p t ih => have := ih (k + 2 + p.1.l.length); simp only [kEndF, List.length_cons]; omega
theorem kEndF_le (k D : Nat) (a : List (DFile × Value)) (h : ∀ p ∈ a, p.1.l.length ≤ D) : kEndF k a ≤ k + (2 + D) * a.length := by
  induction a generalizing k with
  | nil => simp [kEndF]
  | cons p t ih =>
    have h1 := ih (k + 2 + p.1.l.length) (fun q hq => h q (List.mem_cons_of_mem _ hq))
    have h2 := h p (List.mem_cons_self ..)
    simp only [kEndF, List.length_cons, Nat.mul_add] at *
    omega
theorem kEndF_mono (k : Nat) (a : List (DFile × Value)) (i : Nat) : kEndF k (a.take i) ≤ kEndF k a := by
  conv => rhs; rw [← List.take_append_drop i a, kEndF_append]
  have := kEndF_ge (kEndF k (a.take i)) (a.drop i)
  omega
/-- three cells of a file are laid -/
theorem mark_rowF (ms : List (Nat × Nat × Value)) (p : DFile × Value) (rest : List (DFile × Value)) (k i : Nat) (hi : ms.length = i) :
    ((ms.flatMap mcellsF ++ (p :: rest).flatMap fcells).set (i * 3) (.string (markT k))).set (i * 3 + 1) (.int .i64 ((k : Int) + 1)) = (ms ++ [(k, p.1.l.length, p.2)]).flatMap mcellsF ++ rest.flatMap fcells := by
  have hl : (ms.flatMap mcellsF).length = i * 3 := by rw [mcellsF_len, hi]
  rw [List.set_append_right _ _ (by omega), List.set_append_right _ _ (by omega), hl]
  rw [show i * 3 - i * 3 = 0 by omega, show i * 3 + 1 - i * 3 = 1 by omega]
  simp [fcells, mcellsF, List.flatMap_cons]
/-- marked files that the call since w0 made: the first i of them are marked -/
def MarkingF (w0 w : World) (g c : Nat) (ps : List (DFile × Value)) (k i : Nat) : Prop :=
  Own 102 3 w0 w (.slice (some ⟨g, 0, none⟩) ps.length c) ps.length ((msOfF k (ps.take i)).flatMap mcellsF ++ (ps.drop i).flatMap fcells) ∧
  (∀ j (h : j < ps.length), j < i → Own 5 1 w0 w ps[j].2 ps[j].1.l.length ((List.range ps[j].1.l.length).map (mk8 ((kEndF k (ps.take j) : Nat) + 2 : Int)))) ∧
  (∀ j (h : j < ps.length), i ≤ j → OwnL vu8 5 w0 w ps[j].2 ps[j].1.l)
theorem OwnF.marking {w0 w : World} {g c : Nat} {ps : List (DFile × Value)} (h : OwnF w0 w (.slice (some ⟨g, 0, none⟩) ps.length c) ps) (k : Nat) : MarkingF w0 w g c ps k 0 :=
  ⟨by simpa [msOfF] using h.1, fun j _ h0 => by omega, fun j hj _ => h.2.1 _ (List.getElem_mem hj)⟩
theorem Apart.atF {v : Value} {ps : List (DFile × Value)} (h : Apart (v :: ps.map Prod.snd)) : (∀ j (hj : j < ps.length), ∀ g, v.ownBlock = some g → ps[j].2.ownBlock ≠ some g) ∧ (∀ i j (hi : i < ps.length) (hj : j < ps.length), i ≠ j → ∀ g, ps[i].2.ownBlock = some g → ps[j].2.ownBlock ≠ some g) := by
  unfold Apart at h
  rw [List.pairwise_cons] at h
  refine ⟨fun j hj g hg => h.1 _ (List.mem_map_of_mem (List.getElem_mem hj)) g hg, fun i j hi hj hne g hg hg' => ?_⟩
  have hp := List.pairwise_iff_getElem.1 h.2
  rcases Nat.lt_or_ge i j with hlt | hge
  · exact hp i j (by simpa using hi) (by simpa using hj) hlt g (by simpa using hg) (by simpa using hg')
  · exact hp j i (by simpa using hj) (by simpa using hi) (by omega) g (by simpa using hg') (by simpa using hg)
set_option maxRecDepth 100000 in
set_option maxHeartbeats 2000000 in
theorem markFiles_c (g c : Nat) (ps : List (DFile × Value)) (k : Nat) (w0 w : World) (h : OwnF w0 w (.slice (some ⟨g, 0, none⟩) ps.length c) ps) (he : Ext w0 w) (hk : 0 < k) (hk2 : kEndF k ps ≤ 1099511627776) (hd : ∀ p ∈ ps, p.1.l.length ≤ 140737488351232) :
    Calls Try.prog 38 #[.slice (some ⟨g, 0, none⟩) ps.length c, .int .i64 k] w fun e w' => e = .returned (.int .i64 (kEndF k ps : Nat)) ∧ MarkingF w0 w' g c ps k ps.length ∧ Ext w0 w' := by
  have hn := kEndF_ge k ps
  have hAp := h.2.2.atF
  have hM := h.marking k
  have HA1 := Lib.hid (fun j hj => hAp.1 j hj g rfl)
  have HA2 := Lib.hid hAp.2
  have HM := Lib.hid hM
  clear h hAp hM
  go_enter Try.func38, Try.ntmps38
  go_wp2
  go_loopw [1, 5] (fun kk i wr => ∃ j : Nat, j ≤ ps.length ∧ i = .int .i64 j ∧ kk = .int .i64 (kEndF k (ps.take j) : Nat) ∧ Hid (MarkingF w0 wr g c ps k j) ∧ Ext w0 wr) (fun _ i _ => ps.length - (intOf i).toNat)
  case atStart => exact ⟨0, by omega, rfl, rfl, HM, he⟩
  case round =>
    clear HM he
    obtain ⟨j, hj, rfl, rfl, hm, he⟩ := hrel
    by_cases hlt : j < ps.length
    · obtain ⟨K, hK⟩ : ∃ K, kEndF k (ps.take j) = K := ⟨_, rfl⟩
      have hKn : kEndF k (ps.take (j+1)) = K + 2 + ps[j].1.l.length := by
        rw [List.take_succ_eq_append_getElem hlt, kEndF_append, hK]; rfl
      have hKe := kEndF_mono k ps (j+1)
      rw [hKn] at hKe
      have hK0 : k ≤ K := by rw [← hK]; have := kEndF_ge k (ps.take j); omega
      have hdl := hd ps[j] (List.getElem_mem hlt)
      obtain ⟨m1, m2, m3⟩ := hm.out
      obtain ⟨A1, c1, hv1, r1⟩ := OwnL.rd (m3 j hlt (Nat.le_refl _)) hdl
      have hdrop : ps.drop j = ps[j] :: ps.drop (j+1) := List.drop_eq_getElem_cons hlt
      rw [hdrop] at m1
      have hlx : ((msOfF k (ps.take j)).flatMap mcellsF).length = j * 3 := by rw [mcellsF_len, msOfF_length, List.length_take]; omega
      have hlen : ((msOfF k (ps.take j)).flatMap mcellsF ++ (ps[j] :: ps.drop (j+1)).flatMap fcells).length = ps.length * 3 := m1.1
      have hrow := mark_rowF (msOfF k (ps.take j)) ps[j] (ps.drop (j+1)) K j (by rw [msOfF_length, List.length_take]; omega)
      have hnext : msOfF k (ps.take j) ++ [(K, ps[j].1.l.length, ps[j].2)] = msOfF k (ps.take (j+1)) := by
        rw [List.take_succ_eq_append_getElem hlt, msOfF_append, hK]; rfl
      rw [hnext] at hrow
      have h3 : ((msOfF k (ps.take j)).flatMap mcellsF ++ (ps[j] :: ps.drop (j+1)).flatMap fcells)[j * 3 + 2]? = some ps[j].2 := by
        rw [List.getElem?_append_right (by omega), hlx, show j * 3 + 2 - j * 3 = 2 by omega, List.flatMap_cons]; rfl
      obtain ⟨xs, hxs⟩ : ∃ xs, (msOfF k (ps.take j)).flatMap mcellsF ++ (ps[j] :: ps.drop (j+1)).flatMap fcells = xs := ⟨_, rfl⟩
      rw [hxs] at m1 hlen hrow h3
      rw [hK]
      have HM1 := Lib.hid m1; have HE := Lib.hid he; have HR := Lib.hid hrow; have H3 := Lib.hid h3; have HKn := Lib.hid hKn; have HV := Lib.hid hv1; have HLN := Lib.hid hlen
      have Hm2 := Lib.hid m2; have Hm3 := Lib.hid m3
      have MT : Hid (∀ w, Gives Try.prog 83 #[.int .i64 (K : Int)] w (.string (markT K))) := fun w => markText_c K w (by omega) (by omega)
      have HK := Lib.hid hK
      clear hrow h3 hKn hv1 hlen m2 m3 m1 hK hxs hnext hlx hdrop hm
      go_wp2_with fail
      refine (MT.out _).mono ?_; rintro _ w1 ⟨rfl, he1⟩
      obtain ⟨⟨u1, hu1⟩, hf1⟩ := (HM1.out.ext he1).slot (j * 3) (by rw [HLN.out]; omega)
      obtain ⟨⟨u2, hu2⟩, hf2⟩ := (HM1.out.ext he1).slot (j * 3 + 1) (by rw [HLN.out]; omega)
      have hu3 : w1.cell? ⟨g, j * 3 + 2, none⟩ = some (.slice A1 ps[j].1.l.length c1) := by
        rw [(HM1.out.ext he1).cellAt (j * 3 + 2) (by omega), H3.out, HV.out]
      go_wp2_with fail
      rw [show (K : Int) + 1 + 1 = (K : Int) + 2 by omega]
      obtain ⟨hB, heB⟩ := (HM1.out.ext he1).store (HE.out.trans he1) (j * 3) (.string (markT K))
      obtain ⟨hC, heC⟩ := hB.store heB (j * 3 + 1) (.int .i64 ((K : Int) + 1))
      rw [HR.out] at hC
      have hstay : ∀ (v : Value) (n : Nat) (ys : List Value), Own 5 1 w0 wr v n ys → v.ownBlock ≠ some g → Own 5 1 w0 ((w1.setCell ⟨g, j * 3, none⟩ (.string (markT K))).setCell ⟨g, j * 3 + 1, none⟩ (.int .i64 ((K : Int) + 1))) v n ys := by
        intro v n ys ho hne
        exact Own.set' (Own.set' (Own.ext ho he1) ⟨g, j * 3, none⟩ _ hne) ⟨g, j * 3 + 1, none⟩ _ hne
      have od := hstay _ _ _ (Hm3.out j hlt (Nat.le_refl _)) (HA1.out j hlt)
      rw [HV.out] at od
      have HST := Lib.hid hstay; have HC := Lib.hid hC; have HeC := Lib.hid heC
      clear hstay hB hC heB heC
      refine (markByteS_c A1 _ c1 ((K : Int) + 2) _ w0 _ od (by omega) (by omega)).mono ?_; rintro _ w2 ⟨rfl, om, hg⟩
      have hrowb : (Value.slice A1 ps[j].1.l.length c1).ownBlock = ps[j].2.ownBlock := by rw [HV.out]
      have hfin : MarkingF w0 w2 g c ps k (j + 1) := by
        refine ⟨Own.kept' HC.out hg ?_, fun i hi hij => ?_, fun i hi hij => ?_⟩
        · intro g' hg' he'
          rw [hrowb] at he'
          have : g' = g := by injection hg' with hg'; exact hg'.symm
          exact HA1.out j hlt (by rw [he', this])
        · rcases Nat.lt_or_ge i j with hlt' | hge
          · refine Own.kept' (HST.out _ _ _ (Hm2.out i hi hlt') (HA1.out i hi)) hg ?_
            intro g' hg' he'
            rw [hrowb] at he'
            exact HA2.out i j hi hlt (by omega) g' hg' he'
          · obtain rfl : i = j := by omega
            rw [HV.out, HK.out]
            exact om
        · refine Own.kept' (HST.out _ _ _ (Hm3.out i hi (by omega)) (HA1.out i hi)) hg ?_
          intro g' hg' he'
          rw [hrowb] at he'
          exact HA2.out i j hi hlt (by omega) g' hg' he'
      have hext : Ext w0 w2 := HeC.out.grown hg (fun x hx => (World.ownsRow.lt od x hx).1)
      have HF := Lib.hid hfin
      clear hfin om hg od hrowb HST HC HeC Hm2 Hm3 HM1 HE
      go_wp2
      go_roundw
      case rel => exact ⟨j + 1, by omega, by go_num, by rw [HKn.out]; go_num, HF, hext⟩
      case measure => simp [intOf]; omega
    · obtain rfl : j = ps.length := by omega
      go_wp2
      go_ret
      rw [List.take_length]
      exact ⟨rfl, hm.out, he⟩
theorem msOfF_get (k : Nat) (ps : List (DFile × Value)) (i : Nat) (h : i < ps.length) : (msOfF k ps)[i]? = some (kEndF k (ps.take i), ps[i].1.l.length, ps[i].2) := by
  induction ps generalizing k i with
  | nil => simp at h
  | cons p t ih =>
    cases i with
    | zero => rfl
    | succ i =>
      have := ih (k + 2 + p.1.l.length) i (by simpa using h)
      simpa [msOfF, kEndF] using this
theorem mcellsF_get : ∀ (ms : List (Nat × Nat × Value)) (i j : Nat) (h : i < ms.length), j < 3 → (ms.flatMap mcellsF)[i * 3 + j]? = (mcellsF ms[i])[j]? := by
  intro ms
  induction ms with
  | nil => intro i j h; simp at h
  | cons p t ih =>
    intro i j h hj
    rw [List.flatMap_cons]
    cases i with
    | zero =>
      rw [List.getElem?_append_left (by simp [mcellsF]; omega)]
      simp
    | succ i =>
      rw [List.getElem?_append_right (by simp [mcellsF]; omega)]
      have : (i + 1) * 3 + j - (mcellsF p).length = i * 3 + j := by simp [mcellsF]; omega
      rw [this, ih i j (by simpa using h) hj]
      simp
/-- a slice of marked files -/
def RdMF (w : World) (A : Option Addr) (ps : List (DFile × Value)) (k c : Nat) : Prop :=
  ps.length ≤ c ∧ (∀ i (h : i < ps.length), ∃ A' c', ps[i].2 = .slice A' ps[i].1.l.length c' ∧ Rd (mk8 ((kEndF k (ps.take i) : Nat) + 2 : Int)) w A' (List.range ps[i].1.l.length) c') ∧
  (0 < ps.length → ∃ b, A = some ⟨b, 0, none⟩ ∧ b < w.heap.size ∧ ∀ (w' : World), Ext w w' → ∀ i (h : i < ps.length), w'.cell? ⟨b, i * 3, none⟩ = some (.string (markT (kEndF k (ps.take i)))) ∧ w'.cell? ⟨b, i * 3 + 1, none⟩ = some (.int .i64 ((kEndF k (ps.take i) : Nat) + 1)) ∧
    w'.cell? ⟨b, i * 3 + 2, none⟩ = some ps[i].2)
theorem RdMF.ext {w w1 : World} {A : Option Addr} {ps : List (DFile × Value)} {k c : Nat} (h : RdMF w A ps k c) (e : Ext w w1) : RdMF w1 A ps k c :=
  ⟨h.1, fun i hi => let ⟨A', c', h1, h2⟩ := h.2.1 i hi; ⟨A', c', h1, h2.ext e⟩, fun hp => let ⟨b, h1, h2, h3⟩ := h.2.2 hp; ⟨b, h1, Nat.lt_of_lt_of_le h2 e.size, fun w' e' => h3 w' (e.trans e')⟩⟩
theorem MarkingF.rd {w0 w : World} {g c : Nat} {ps : List (DFile × Value)} {k : Nat} (h : MarkingF w0 w g c ps k ps.length) (hd : ∀ p ∈ ps, p.1.l.length ≤ 140737488351232) : RdMF w (some ⟨g, 0, none⟩) ps k c := by
  obtain ⟨m1, m2, _⟩ := h
  rw [List.take_length, List.drop_length, List.flatMap_nil, List.append_nil] at m1
  refine ⟨?_, fun i hi => ?_, fun hp => ?_⟩
  · rcases m1.2 with ⟨hv, h0⟩ | ⟨g', cap, cur, hv, hb, hg, hnc, hcm, hcs, htake⟩
    · cases hv
    · injection hv with _ _ h3; omega
  · obtain ⟨A', c', hv, hr⟩ := Own.rd (m2 i hi hi) (by rw [List.length_range]; exact hd _ (List.getElem_mem hi))
    rw [List.length_range] at hv
    exact ⟨A', c', hv, hr⟩
  · have hlt := (World.ownsRow.lt m1 g rfl).2
    refine ⟨g, rfl, hlt, fun w' e i hi => ?_⟩
    have m1' := Own.ext m1 e
    have hi' : i < (msOfF k ps).length := by rw [msOfF_length]; exact hi
    have hget := msOfF_get k ps i hi
    rw [List.getElem?_eq_getElem hi'] at hget
    injection hget with hget
    have hc : ∀ j, j < 3 → w'.cell? ⟨g, i * 3 + j, none⟩ = (mcellsF (kEndF k (ps.take i), ps[i].1.l.length, ps[i].2))[j]? := by
      intro j hj
      rw [m1'.cellAt (i * 3 + j) (by omega), mcellsF_get _ i j hi' hj, hget]
    exact ⟨by have := hc 0 (by omega); simpa [mcellsF] using this, by have := hc 1 (by omega); simpa [mcellsF] using this, by have := hc 2 (by omega); simpa [mcellsF] using this⟩
set_option maxRecDepth 100000 in
set_option maxHeartbeats 2000000 in
theorem heldFiles_c (A : Option Addr) (ps : List (DFile × Value)) (k c : Nat) (w : World) (h : RdMF w A ps k c) (hk : 0 < k) (hk2 : kEndF k ps ≤ 1099511627776) :
    Gives Try.prog 39 #[.slice A ps.length c, .int .i64 k] w (.int .i64 (kEndF k ps : Nat)) := by
  have hn := kEndF_ge k ps
  go_enter Try.func39, Try.ntmps39
  go_wp2
  go_loopw [1, 5] (fun kk i wr => ∃ j : Nat, j ≤ ps.length ∧ i = .int .i64 j ∧ kk = .int .i64 (kEndF k (ps.take j) : Nat) ∧ Ext w wr) (fun _ i _ => ps.length - (intOf i).toNat)
  case atStart => exact ⟨0, by omega, rfl, rfl, Ext.refl _⟩
  case round =>
    obtain ⟨j, hj, rfl, rfl, he⟩ := hrel
    by_cases hlt : j < ps.length
    · obtain ⟨b, rfl, hb, hc⟩ := h.2.2 (by omega)
      obtain ⟨A1, c1, hv1, r1⟩ := h.2.1 j hlt
      have hcj := fun w' e => hc w' e j hlt
      rw [hv1] at hcj
      have hKn : kEndF k (ps.take (j+1)) = kEndF k (ps.take j) + 2 + ps[j].1.l.length := by
        rw [List.take_succ_eq_append_getElem hlt, kEndF_append]; rfl
      have hKe := kEndF_mono k ps (j+1)
      rw [hKn] at hKe
      have hK0 : k ≤ kEndF k (ps.take j) := by have := kEndF_ge k (ps.take j); omega
      generalize kEndF k (ps.take j) = K at *
      have HKn := Lib.hid hKn; clear hKn hv1 hc h
      have MT : Hid (∀ w, Gives Try.prog 83 #[.int .i64 (K : Int)] w (.string (markT K))) := fun w => markText_c K w (by omega) (by omega)
      have HB : Hid (∀ w, Rd (mk8 ((K : Int) + 2)) w A1 (List.range ps[j].1.l.length) c1 → Gives Try.prog 90 #[.slice A1 ps[j].1.l.length c1, .int .i64 ((K : Int) + 2)] w (.int .i64 ((K : Int) + 2 + ps[j].1.l.length))) := fun w h => heldByteS_c _ _ _ _ w h (by omega) (by omega)
      have hk0 := fun w' e => (hcj w' e).1; have hk1 := fun w' e => (hcj w' e).2.1; have hk2 := fun w' e => (hcj w' e).2.2
      clear hcj
      go_wp2_with fail
      refine wp_region_quiet_below (by kernel_rfl) (by kernel_rfl) ?_
      repeat (go_big_quiet_step ((go_at_call 83; exact Calls.regrown_of (MT.out _))))
      refine wpQuiet_nil ?_
      rintro w1 ⟨⟨nq, osq⟩, hq⟩
      have ew1 := ext_of_q hq
      clear hq nq osq
      have he1 := he.trans ew1
      go_wp2_with fail
      rw [show (K : Int) + 1 + 1 = (K : Int) + 2 by omega]
      refine (HB.out _ (r1.ext he1)).mono ?_; rintro _ w2 ⟨rfl, he2⟩
      go_wp2
      go_roundw
      case rel => exact ⟨j + 1, by omega, by go_num, by rw [HKn.out]; go_num, he1.trans he2⟩
      case measure => simp [intOf]; omega
    · obtain rfl : j = ps.length := by omega
      go_wp2
      go_ret
      rw [List.take_length]
      exact ⟨rfl, he⟩
end Go.Proofs.Ytlaejcacembjiaa

/- Logs: CountRecords, IsValidLog of the reference, copies. -/
namespace Go.Proofs.Ytlaejcacembjiaa
open Go.RowKit Go.Sort



/-- a block of two cells, written one by one -/
theorem stored2 {w1 : World} {g : Nat} {x0 x1 : Value} (h : ∀ i, w1.cell? ⟨g, i, none⟩ = #[x0, x1][i]?) :
    (∀ y0, (w1.setCell ⟨g, 0, none⟩ y0).cell? ⟨g, 0, none⟩ = some y0) ∧ (∀ y0 y1, ((w1.setCell ⟨g, 0, none⟩ y0).setCell ⟨g, 1, none⟩ y1).cell? ⟨g, 1, none⟩ = some y1) := by
  have h0 := h 0; have h1 := h 1
  simp at h0 h1
  refine ⟨fun y0 => ?_, fun y0 y1 => ?_⟩
  · apply World.cell?_setCell_same; exact h0
  · apply World.cell?_setCell_same (u := x1); simp [World.cell?_setCell_other, h1]
set_option maxRecDepth 100000 in
set_option maxHeartbeats 2000000 in
theorem iCopyLog_c (A : Option Addr) (l : List UInt8) (c : Nat) (s : Int) (w : World) (h : Bs w A l c) :
    Calls Try.prog 118 #[vlog (.slice A l.length c) s] w fun e w' => ∃ v, e = .returned (vlog v s) ∧ OwnL vu8 5 w w' v l ∧ Ext w w' := by
  have hl := h.len
  have eb := Ext_alloc (.cells #[.slice none 0 0, .int .i64 0] 51) (Ext_alloc (.cells #[.slice A l.length c, .int .i64 s] 51) (Ext.refl w))
  have H := Lib.hid h
  have BX := fun w' (e : Ext ((w.alloc (.cells #[.slice A l.length c, .int .i64 s] 51)).alloc (.cells #[.slice none 0 0, .int .i64 0] 51)) w') => boxed2 e
  have B0 := fun w' e => (BX w' e).1
  have B1 := fun w' e => (BX w' e).2.1
  have F1 := fun w' e => (BX w' e).2.2.2.1
  have HO : Hid (OwnL vu8 5 ((w.alloc (.cells #[.slice A l.length c, .int .i64 s] 51)).alloc (.cells #[.slice none 0 0, .int .i64 0] 51)) ((((w.alloc (.cells #[.slice A l.length c, .int .i64 s] 51)).alloc (.cells #[.slice none 0 0, .int .i64 0] 51)).alloc (.cells #[] 5)).drew) (.slice (some ⟨w.heap.size + 1 + 1, 0, none⟩) 0 0) []) := by
    have := OwnL.ext (OwnL.empty (f := vu8) (e := 5) (Ext.refl ((w.alloc (.cells #[.slice A l.length c, .int .i64 s] 51)).alloc (.cells #[.slice none 0 0, .int .i64 0] 51)))) (Ext_drew (Ext.refl _))
    simpa [Hid] using this
  have HB : Hid (([] : List UInt8).length + l.length ≤ 140737488355328 / 1) := by show _ ≤ _; simp; omega
  have HB2 : Hid ((([] : List UInt8).length + l.length) * 1 ≤ 140737488355328) := by show _ ≤ _; simp; omega
  clear BX
  unfold vlog
  go_enter Try.func118, Try.ntmps118
  go_wp2_with fail
  go_region_law (first
    | (refine step_appL rfl (.tmp 3) (.tmp 5) _ rfl E_u8 (by omega) _ _ vu8 (fun _ => rfl) _ rfl _ _ _ rfl [] l HO.out (Ext_drew (Ext_alloc _ (Ext.refl _))) rfl ((H.out.ext eb).src (Ext_drew (Ext_alloc _ (Ext.refl _)))) HB2.out ?_; intro v4 w4 ho4 he4; rw [List.nil_append] at ho4; obtain ⟨A4, c4, hv4, r4⟩ := OwnL.rd ho4 hl; subst hv4))
  all_goals
    go_wp2
    obtain ⟨s0, s1⟩ := stored2 (B1 _ he4)
    refine bodyPost_ret (v := .agg #[.slice A4 l.length c4, .int .i64 s]) (by simp [results, Try.results118, go_sem, s0, s1]) rfl ⟨_, rfl, ?_, ?_⟩
    · exact OwnL.lower (ownsRow_setCell_below (ownsRow_setCell_below ho4 (by simp) _) (by simp) _) eb
    · exact ((eb.trans he4).setCell (by simp) _).setCell (by simp) _

set_option maxRecDepth 100000 in
set_option maxHeartbeats 2000000 in
theorem sCopyLog_c (A : Option Addr) (l : List UInt8) (c : Nat) (s : Int) (w : World) (h : Bs w A l c) :
    Calls Try.prog 116 #[vlog (.slice A l.length c) s] w fun e w' => ∃ v, e = .returned (vlog v s) ∧ OwnL vu8 5 w w' v l ∧ Ext w w' := by
  have hl := h.len
  have eb := Ext_alloc (.cells #[.slice none 0 0, .int .i64 0] 51) (Ext_alloc (.cells #[.slice A l.length c, .int .i64 s] 51) (Ext.refl w))
  have H := Lib.hid h
  have BX := fun w' (e : Ext ((w.alloc (.cells #[.slice A l.length c, .int .i64 s] 51)).alloc (.cells #[.slice none 0 0, .int .i64 0] 51)) w') => boxed2 e
  have B0 := fun w' e => (BX w' e).1
  have B1 := fun w' e => (BX w' e).2.1
  have F1 := fun w' e => (BX w' e).2.2.2.1
  have HO : Hid (OwnL vu8 5 ((w.alloc (.cells #[.slice A l.length c, .int .i64 s] 51)).alloc (.cells #[.slice none 0 0, .int .i64 0] 51)) ((((w.alloc (.cells #[.slice A l.length c, .int .i64 s] 51)).alloc (.cells #[.slice none 0 0, .int .i64 0] 51)).alloc (.cells #[] 5)).drew) (.slice (some ⟨w.heap.size + 1 + 1, 0, none⟩) 0 0) []) := by
    have := OwnL.ext (OwnL.empty (f := vu8) (e := 5) (Ext.refl ((w.alloc (.cells #[.slice A l.length c, .int .i64 s] 51)).alloc (.cells #[.slice none 0 0, .int .i64 0] 51)))) (Ext_drew (Ext.refl _))
    simpa [Hid] using this
  have HB : Hid (([] : List UInt8).length + l.length ≤ 140737488355328 / 1) := by show _ ≤ _; simp; omega
  have HB2 : Hid ((([] : List UInt8).length + l.length) * 1 ≤ 140737488355328) := by show _ ≤ _; simp; omega
  clear BX
  unfold vlog
  go_enter Try.func116, Try.ntmps116
  go_wp2_with fail
  go_region_law (first
    | (refine step_appL rfl (.tmp 3) (.tmp 5) _ rfl E_u8 (by omega) _ _ vu8 (fun _ => rfl) _ rfl _ _ _ rfl [] l HO.out (Ext_drew (Ext_alloc _ (Ext.refl _))) rfl ((H.out.ext eb).src (Ext_drew (Ext_alloc _ (Ext.refl _)))) HB2.out ?_; intro v4 w4 ho4 he4; rw [List.nil_append] at ho4; obtain ⟨A4, c4, hv4, r4⟩ := OwnL.rd ho4 hl; subst hv4))
  all_goals
    go_wp2
    obtain ⟨s0, s1⟩ := stored2 (B1 _ he4)
    refine bodyPost_ret (v := .agg #[.slice A4 l.length c4, .int .i64 s]) (by simp [results, Try.results116, go_sem, s0, s1]) rfl ⟨_, rfl, ?_, ?_⟩
    · exact OwnL.lower (ownsRow_setCell_below (ownsRow_setCell_below ho4 (by simp) _) (by simp) _) eb
    · exact ((eb.trans he4).setCell (by simp) _).setCell (by simp) _

theorem Rd.take {α : Type} {f : α → Value} {w : World} {A : Option Addr} {l : List α} {c : Nat} (h : Rd f w A l c) (n : Nat) : Rd f w A (l.take n) c := by
  have hn : (l.take n).length ≤ l.length := by simp; omega
  refine ⟨⟨by have := h.cap; omega, by have := h.1.2.1; omega, fun hp => ?_⟩, by have := h.len; omega⟩
  obtain ⟨b, off, h1, h2, h3⟩ := h.base (by omega)
  refine ⟨b, off, h1, h2, fun w' e i hi => ?_⟩
  rw [h3 w' e i (by omega)]
  simp
theorem Rd.none {α : Type} {f : α → Value} {l : List α} (hl : l.length = 0) (w : World) (A : Option Addr) (c : Nat) : Rd f w A l c := ⟨⟨by omega, by omega, fun h => by omega⟩, by omega⟩
set_option maxRecDepth 100000 in
set_option maxHeartbeats 2000000 in
theorem sIsValidLog_c (A : Option Addr) (l : List UInt8) (c : Nat) (s : Int) (w : World) (h : Bs w A l c) (hL : l.length ≤ 1099511627776) :
    Gives Try.prog 84 #[vlog (.slice A l.length c) s] w (.bool (validLog l s)) := by
  have hl := h.len
  have hcap := h.cap
  have eb := Ext_alloc (.cells #[.slice A l.length c, .int .i64 s] 51) (Ext.refl w)
  have B := fun w' (e : Ext (w.alloc (.cells #[.slice A l.length c, .int .i64 s] 51)) w') => boxed e
  by_cases hs : s < 0 ∨ (l.length : Int) < s
  · have HI : Hid ((decide (0 ≤ s) && decide (s ≤ (l.length : Int))) = false) := by
      show _ = _; rw [Bool.and_eq_false_iff]; simp; omega
    have HV : Hid (validLog l s = false) := validLog_out hs
    rw [HV.out]
    clear hs
    unfold vlog
    go_enter Try.func84, Try.ntmps84
    go_wp2_with (go_at_call 104; refine (l1In_c _ _ _ _).mono ?_; rintro _ w1 ⟨rfl, he1⟩; rw [HI.out])
    go_ret
    exact ⟨rfl, eb.trans he1⟩
  · obtain ⟨n, rfl⟩ := Int.eq_ofNat_of_zero_le (show 0 ≤ s by omega)
    have hn : n ≤ l.length := by omega
    clear hs
    have HI : Hid ((decide ((0 : Int) ≤ (n : Int)) && decide ((n : Int) ≤ (l.length : Int))) = true) := by
      show _ = _; simp; omega
    have HV : Hid (validLog l (n : Int) = (((stop l 0 : Int) == (l.length : Int)) && ((stop (l.take n) 0 : Int) == (n : Int)))) := by
      show _ = _; rw [validLog_eq hn]; unfold endsAt; rw [Bool.eq_iff_iff]; simp; omega
    have C1 := Lib.hid (fun w h => sReadRecords_c A l c w h hL)
    have C2 : Hid (∀ A' c' w', Bs w' A' (l.take n) c' → Calls Try.prog 120 #[.slice A' n c'] w' fun e w'' => ∃ v ps, e = .returned (.tuple #[v, .int .i64 (stop (l.take n) 0 : Nat)]) ∧ ps.map Prod.fst = recs (l.take n) 0 ∧ OwnR w' w'' v ps ∧ Ext w' w'') := by
      intro A' c' w' h'
      have := sReadRecords_c A' (l.take n) c' w' h' (by simp; omega)
      rw [show (l.take n).length = n by simp; omega] at this
      exact this
    rw [HV.out]
    generalize stop (l.take n) 0 = s2 at *
    generalize recs (l.take n) 0 = r2 at *
    generalize stop l 0 = s1 at *
    generalize recs l 0 = r1 at *
    unfold vlog
    go_enter Try.func84, Try.ntmps84
    go_wp2_with (first
      | (go_at_call 104; refine (l1In_c _ _ _ _).mono ?_; rintro _ w1 ⟨rfl, he1⟩; rw [HI.out]))
    refine (C1.out _ (h.ext (eb.trans he1))).mono ?_; rintro _ w2 ⟨v2, p2, rfl, _, _, he2⟩; have he12 := he1.trans he2
    go_wp2_with fail
    refine (C2.out _ _ _ ((h.ext (eb.trans he12)).take n)).mono ?_; rintro _ w3 ⟨v3, p3, rfl, _, _, he3⟩; have he13 := he12.trans he3
    go_wp2
    all_goals
      go_ret
      exact ⟨ret_bool (by simp [*]), eb.trans he13⟩
end Go.Proofs.Ytlaejcacembjiaa

/- IsValidLog of the program: the scan that panics, and the deferred closure that recovers. -/
namespace Go.Proofs.Ytlaejcacembjiaa
open Go.RowKit Go.Sort

/-- how the scan of a log ends -/
def mustEnd : Bool → Ending
  | true => .returned (.tuple #[])
  | false => .panicked [{ v := .iface 140 (.agg #[]), recovered := false }]
set_option maxRecDepth 100000 in
set_option maxHeartbeats 4000000 in
theorem iMustBeLog_c (A : Option Addr) (l : List UInt8) (c : Nat) (s : Int) (w : World) (h : Bs w A l c) (hL : l.length ≤ 1099511627776) :
    Calls Try.prog 128 #[vlog (.slice A l.length c) s] w fun e w' => e = mustEnd (validLog l s) ∧ Ext w w' := by
  have hl := h.len
  have eb := Ext_alloc (.cells #[.slice A l.length c, .int .i64 s] 51) (Ext.refl w)
  have B := fun w' (e : Ext (w.alloc (.cells #[.slice A l.length c, .int .i64 s] 51)) w') => boxed e
  have H := Lib.hid h; clear h
  by_cases hs : s < 0 ∨ (l.length : Int) < s
  · have HI : Hid ((decide (0 ≤ s) && decide (s ≤ (l.length : Int))) = false) := by
      show _ = _; rw [Bool.and_eq_false_iff]; simp; omega
    have HV : Hid (validLog l s = false) := validLog_out hs
    rw [HV.out]
    clear hs
    unfold vlog
    go_enter Try.func128, Try.ntmps128
    go_wp2_with (go_at_call 109; refine (iInRange_c _ _ _ _).mono ?_; rintro _ w1 ⟨rfl, he1⟩; rw [HI.out])
    exact ⟨rfl, rfl, eb.trans he1⟩
  · obtain ⟨n, rfl⟩ := Int.eq_ofNat_of_zero_le (show 0 ≤ s by omega)
    have hn : n ≤ l.length := by omega
    clear hs
    have HI : Hid ((decide ((0 : Int) ≤ (n : Int)) && decide ((n : Int) ≤ (l.length : Int))) = true) := by
      show _ = _; simp; omega
    have HV : Hid (validLog l (n : Int) = ((stop l 0 == l.length) && endsAt l n)) := validLog_eq hn
    have H0 : Hid (((n : Int) == 0) = (n == 0)) := by show _ = _; rw [Bool.eq_iff_iff]; simp
    unfold vlog
    go_enter Try.func128, Try.ntmps128
    go_wp2_with (go_at_call 109; refine (iInRange_c _ _ _ _).mono ?_; rintro _ w1 ⟨rfl, he1⟩; rw [HI.out])
    go_loopw [2, 3] (fun e i wr => ∃ (a : Nat) (b : Bool), a ≤ l.length ∧ i = .int .i64 a ∧ e = .bool b ∧ Hid (Scan l n a b) ∧ Hid (stop l a = stop l 0) ∧ Ext (w.alloc (.cells #[.slice A l.length c, .int .i64 (n : Int)] 51)) wr) (fun _ i _ => l.length - (intOf i).toNat)
    case atStart => exact ⟨0, _, by omega, rfl, rfl, by have := Scan.start l n; rw [← H0.out] at this; exact this, rfl, he1⟩
    case round =>
      clear he1
      obtain ⟨a, b, ha, rfl, rfl, hsc, hst, he⟩ := hrel
      have hwf : (Lit.int .i64 (a : Int)).wf = true := WalkArith.wf_i64 (by omega)
      have CD := Lib.hid (fun w h => iDecodeRecord_c A l c a w h hwf)
      unfold DecOut at CD
      by_cases hlt : a < l.length
      · cases hd : decN l a with
        | none =>
          obtain ⟨q1, q2⟩ := dec_no hd
          rw [q1, q2] at CD
          have HE : Hid (validLog l (n : Int) = false) := by
            show _ = _; rw [HV.out, ← hst.out, (read_none hd).2]
            have : (a == l.length) = false := by simp; omega
            rw [this]; rfl
          clear q1 q2 hd hst hsc
          unfold vrec DRec.zero at CD
          go_wp2_with (go_at_call 157; refine (CD.out _ (H.out.ext (eb.trans he))).mono ?_; rintro _ w2 ⟨v2, rfl, ho2, he2⟩; obtain ⟨A2, c2, hv2, _⟩ := OwnL.rd ho2 (by simp); subst hv2)
          exact ⟨rfl, by rw [HE.out]; rfl, Ext_alloc _ ((eb.trans he).trans he2)⟩
        | some r =>
          obtain ⟨q1, q2⟩ := dec_yes hd
          have hf := decN_fits hd
          have hrl : r.l.length ≤ 400 := by have := validRec_facts (decN_some hd).2.1; omega
          rw [q1, q2] at CD
          have hsc2 := Scan.step hn hd hsc.out
          have hst2 : stop l (a + sizeAt l a) = stop l 0 := (read_some hd).2.symm.trans hst.out
          obtain ⟨a', ha'⟩ : ∃ a', a + sizeAt l a = a' := ⟨_, rfl⟩
          rw [ha'] at hsc2 hst2
          rw [show a + nmAt l a + 6 + szAt l a = a' by rw [← ha']; unfold sizeAt; omega] at CD
          have ha2 : a' ≤ l.length := by omega
          have ha3 : a < a' := by omega
          obtain ⟨k, nm, ver, d⟩ := r
          dsimp only [Option.getD_some] at CD hrl
          have H1 : Hid (((a' : Int) == (n : Int)) = (a' == n)) := by show _ = _; rw [Bool.eq_iff_iff]; simp; omega
          have HS := Lib.hid hsc2; have HT := Lib.hid hst2
          clear q1 q2 hd hst hsc hsc2 hst2 ha' hf
          unfold vrec at CD
          cases b
          all_goals
            go_wp2_with (go_at_call 157; refine (CD.out _ (H.out.ext (eb.trans he))).mono ?_; rintro _ w2 ⟨v2, rfl, ho2, he2⟩; obtain ⟨A2, c2, hv2, _⟩ := OwnL.rd ho2 (by omega); subst hv2; have he12 := he.trans he2)
            go_roundw
            case rel => exact ⟨a', _, by omega, by go_num, rfl, by first | exact HS | (rw [H1.out]; exact HS), HT, Ext_alloc _ he12⟩
            case measure => simp [intOf]; omega
      · obtain rfl : a = l.length := by omega
        have HE : Hid (validLog l (n : Int) = b) := by
          show _ = _
          rw [HV.out, ← hst.out, (read_none (decN_out (by omega))).2, Scan.done hn hsc.out]
          simp
        clear hst hsc
        cases b
        · go_wp2
          exact ⟨rfl, by rw [HE.out]; rfl, eb.trans he⟩
        · go_wp2
          go_end0
          exact ⟨by rw [HE.out]; rfl, eb.trans he⟩

section
variable {P : Program}
theorem run_ta_hit (w : World) (t xT : TypeId) (fs : Array Field) (v : Value) (h : P.underlying t = some (.struct fs)) : (Instr.typeAssert (.iface t v) xT t true).run P w = .ok (.tuple #[v, .bool true]) w := by
  simp [Instr.typeAssert, run_underlying h, go_sem, Result.andThen]
theorem run_ta_nil (w : World) (t xT : TypeId) (fs : Array Field) (z : Value) (h : P.underlying t = some (.struct fs)) (hz : (P.info? t).map (·.zero) = some (some z)) : (Instr.typeAssert .nilIface xT t true).run P w = .ok (.tuple #[z, .bool false]) w := by
  obtain ⟨j, hj, hz'⟩ := Option.map_eq_some_iff.1 hz
  simp [Instr.typeAssert, run_underlying h, zeroValue, typeInfo, hj, hz']
end
set_option maxRecDepth 100000 in
theorem catch_panicking (p : Addr) (x : Bool) (older : List PanicEntry) (w : World) (hc : w.cell? p = some (.bool x)) (hz : w.frozen? p = false) :
    CallsD Try.prog 127 #[.pointer (some p)] (.panicking ({ v := .iface 140 (.agg #[]), recovered := false } :: older)) w fun e u' w' =>
      e = .returned (.tuple #[]) ∧ u' = .panicking ({ v := .iface 140 (.agg #[]), recovered := true } :: older) ∧ ∃ o, w' = (w.alloc o).setCell p (.bool false) := by
  have hta := fun w => run_ta_hit (P := Try.prog) w 140 20 _ (.agg #[]) Try.underlying140
  refine callsD_of_wpS Try.func127 rfl fun c₀ cs hu => ?_
  apply wpS_seq
  apply wpS_region
  simp [wpOpsS, go_sem, recoverD, hu, Try.ntmps127, Exit.thenS, hta]
  apply wpS_seq
  apply wpS_region
  simp [wpOpsS, go_sem, Exit.thenS]
  refine wpS_cond (t := true) (by simp [Act.eval, Array.replicate]) ?_
  simp only [if_true]
  apply wpS_region
  have hlt := block_lt_of_cell hc
  have hne : ¬ p.block = w.heap.size := by omega
  have hc2 : (w.alloc (.cells #[] 140)).cell? p = some (.bool x) := (Ext_alloc _ (Ext.refl w)).cell hlt |>.trans hc
  have hz2 : (w.alloc (.cells #[] 140)).frozen? p = false := ((Ext_alloc _ (Ext.refl w)).frozen hlt).trans hz
  simp [wpOpsS, go_sem, hc2, hz2, bodyPostS, results, Try.results127]
  exact ⟨_, rfl⟩
set_option maxRecDepth 100000 in
theorem catch_idle (p : Addr) (w : World) :
    CallsD Try.prog 127 #[.pointer (some p)] .returning w fun e u' w' => e = .returned (.tuple #[]) ∧ u' = .returning ∧ ∃ o, w' = w.alloc o := by
  have hta := fun w => run_ta_nil (P := Try.prog) w 140 20 _ (.agg #[]) Try.underlying140 (by kernel_rfl)
  refine callsD_of_wpS Try.func127 rfl fun c₀ cs hu => ?_
  apply wpS_seq
  apply wpS_region
  simp [wpOpsS, go_sem, recoverD, hu, Try.ntmps127, Exit.thenS, hta]
  apply wpS_seq
  apply wpS_region
  simp [wpOpsS, go_sem, Exit.thenS]
  refine wpS_cond (t := false) (by simp [Act.eval, Array.replicate]) ?_
  simp only [Bool.false_eq_true, if_false]
  refine wpS_of_wp (wp_skip ?_)
  cases c₀
  simp_all [bodyPostS, results, Try.results127]
  exact ⟨_, rfl⟩

set_option maxRecDepth 100000 in
set_option maxHeartbeats 1000000 in
theorem iIsValidLog_c (A : Option Addr) (l : List UInt8) (c : Nat) (s : Int) (w : World) (h : Bs w A l c) (hL : l.length ≤ 1099511627776) :
    Gives Try.prog 86 #[vlog (.slice A l.length c) s] w (.bool (validLog l s)) := by
  have hmf : ∀ (fn : Fn) (first cap : Array Value) (w : World), (Instr.makeFunc fn first cap).run Try.prog w = .ok (.func fn first cap) w := fun _ _ _ _ => rfl
  have eb := Ext_alloc (.cells #[.bool false] 4) (Ext_alloc (.cells #[.slice A l.length c, .int .i64 s] 51) (Ext.refl w))
  have BX := fun w' (e : Ext ((w.alloc (.cells #[.slice A l.length c, .int .i64 s] 51)).alloc (.cells #[.bool false] 4)) w') => boxed2 e
  have B1 := fun w' e => (BX w' e).2.1 0
  have F1 := fun w' e => (BX w' e).2.2.2.1 0
  have C := Lib.hid (fun w h => iMustBeLog_c A l c s w h hL)
  clear BX
  cases hv : validLog l s
  · rw [hv] at C
    unfold vlog mustEnd at C
    unfold vlog
    go_enter_defers Try.func86, Try.ntmps86
    go_wp2_with (go_at_call 128; refine (C.out _ (h.ext eb)).mono ?_; rintro _ w1 ⟨rfl, he1⟩)
    refine leaves_cons (f := 127) (args := #[.pointer (some ⟨w.heap.size + 1, 0, none⟩)]) (by simp) (by simp [go_sem]) ?_
    refine (catch_panicking ⟨w.heap.size + 1, 0, none⟩ false [] _ (B1 _ he1) (F1 _ he1)).mono ?_
    rintro e u' w'' ⟨rfl, rfl, o, rfl⟩
    have hs : w.heap.size + 1 < w1.heap.size := by have := he1.size; simp at this; omega
    have hc : (w1.alloc o).cell? ⟨w.heap.size + 1, 0, none⟩ = some (.bool false) := B1 _ (he1.trans (Ext_alloc _ (Ext.refl _)))
    have hs0 : ((w1.alloc o).setCell ⟨w.heap.size + 1, 0, none⟩ (.bool false)).cell? ⟨w.heap.size + 1, 0, none⟩ = some (.bool false) := World.cell?_setCell_same _ _ _ hc
    have hfin : Ext w ((w1.alloc o).setCell ⟨w.heap.size + 1, 0, none⟩ (.bool false)) := (Ext_alloc _ (eb.trans he1)).setCell (by simp) _
    simp [Leaves, settle, results, Try.results86, go_sem, hs0]
    exact hfin
  · rw [hv] at C
    unfold vlog mustEnd at C
    unfold vlog
    go_enter_defers Try.func86, Try.ntmps86
    go_wp2_with (go_at_call 128; refine (C.out _ (h.ext eb)).mono ?_; rintro _ w1 ⟨rfl, he1⟩)
    have hc1 : (w1.setCell ⟨w.heap.size + 1, 0, none⟩ (.bool true)).cell? ⟨w.heap.size + 1, 0, none⟩ = some (.bool true) := World.cell?_setCell_same _ _ _ (B1 _ he1)
    have e2 : Ext w (w1.setCell ⟨w.heap.size + 1, 0, none⟩ (.bool true)) := (eb.trans he1).setCell (by simp) _
    have hs : w.heap.size + 1 < (w1.setCell ⟨w.heap.size + 1, 0, none⟩ (.bool true)).heap.size := block_lt_of_cell hc1
    generalize w1.setCell ⟨w.heap.size + 1, 0, none⟩ (.bool true) = w2 at *
    refine leaves_cons (f := 127) (args := #[.pointer (some ⟨w.heap.size + 1, 0, none⟩)]) (by simp) (by simp [go_sem]) ?_
    refine (catch_idle ⟨w.heap.size + 1, 0, none⟩ _).mono ?_
    rintro e u' w'' ⟨rfl, rfl, o, rfl⟩
    have hs0 : (w2.alloc o).cell? ⟨w.heap.size + 1, 0, none⟩ = some (.bool true) := ((Ext_alloc o (Ext.refl w2)).cell hs).trans hc1
    have hfin : Ext w (w2.alloc o) := Ext_alloc _ e2
    simp [Leaves, settle, results, Try.results86, go_sem, hs0]
    exact hfin
end Go.Proofs.Ytlaejcacembjiaa

/- StoreLog, CrashLog and AppendRecord of the program and of the reference. -/
namespace Go.Proofs.Ytlaejcacembjiaa
open Go.RowKit Go.Sort

theorem grown_setCell (w : World) (a : Addr) (u : Value) : w.grownBy (w.setCell a u) (some a.block) :=
  ⟨rfl, rfl, rfl, by simp, fun k _ hk => heap_setCell_other w a k u (fun e => hk (by rw [e]))⟩
/-- a row of the call's own stays where another block is written -/
theorem OwnL.set {α : Type} {f : α → Value} {e : TypeId} {w0 w : World} {v : Value} {l : List α} (h : OwnL f e w0 w v l) (p : Addr) (u : Value) (hne : v.ownBlock ≠ some p.block) : OwnL f e w0 (w.setCell p u) v l := by
  refine World.ownsRow.kept h (grown_setCell w p u) ?_
  cases hb : v.ownBlock with
  | none => exact .inl rfl
  | some g => right; rw [hb] at hne; exact fun he => hne he
theorem OwnL.lt_ne {α : Type} {f : α → Value} {e : TypeId} {w0 w : World} {v : Value} {l : List α} (h : OwnL f e w0 w v l) {b : Nat} (hb : b < w0.heap.size ∨ w.heap.size ≤ b) : v.ownBlock ≠ some b := by
  intro hv
  have h1 := World.ownsRow.lt h b hv
  omega
theorem OwnL.take {α : Type} {f : α → Value} {e : TypeId} {w0 w : World} {A : Option Addr} {n c : Nat} {l : List α} (h : OwnL f e w0 w (.slice A l.length c) l) (hn : n ≤ l.length) : OwnL f e w0 w (.slice A n c) (l.take n) := by
  have hl : (l.take n).length = n := by simp; omega
  unfold OwnL
  rw [hl]
  refine ⟨by simpa using hl, ?_⟩
  rcases h.2 with ⟨hv, h0⟩ | ⟨g, cap, cur, hv, hb, hg, hnc, hcm, hcs, htake⟩
  · injection hv with h1 _ h3
    subst h1; subst h3
    exact .inl ⟨by rw [show n = 0 by omega], by omega⟩
  · injection hv with h1 _ h3
    subst h1; subst h3
    refine .inr ⟨g, c, cur, rfl, hb, hg, by omega, hcm, hcs, ?_⟩
    have : (cur.toList.take (l.length * 1)).take n = (l.map f).take n := by rw [htake]
    rw [List.take_take, Nat.min_eq_left (by omega)] at this
    rw [Nat.mul_one, this, List.map_take]
/-- what is stored behind StoreLog -/
def storeAt (l : List UInt8) (s : Int) : Int := if validLog l s then l.length else s
set_option maxRecDepth 100000 in
set_option maxHeartbeats 2000000 in
theorem iStoreLog_c (A : Option Addr) (l : List UInt8) (c : Nat) (s : Int) (w : World) (h : Bs w A l c) (hL : l.length ≤ 1099511627776) :
    Calls Try.prog 74 #[vlog (.slice A l.length c) s] w fun e w' => ∃ v, e = .returned (vlog v (storeAt l s)) ∧ OwnL vu8 5 w w' v l ∧ Ext w w' := by
  have hl := h.len
  have eb := Ext_alloc (.cells #[.slice none 0 0, .int .i64 0] 51) (Ext_alloc (.cells #[.slice A l.length c, .int .i64 s] 51) (Ext.refl w))
  have BX := fun w' (e : Ext ((w.alloc (.cells #[.slice A l.length c, .int .i64 s] 51)).alloc (.cells #[.slice none 0 0, .int .i64 0] 51)) w') => boxed2 e
  have B0 := fun w' e => (BX w' e).1
  have B1 := fun w' e => (BX w' e).2.1
  have F1 := fun w' e => (BX w' e).2.2.2.1
  clear BX
  have C1 := Lib.hid (fun w h => iCopyLog_c A l c s w h)
  have C2 := Lib.hid (fun w h => iIsValidLog_c A l c s w h hL)
  unfold storeAt
  unfold vlog at *
  cases hv : validLog l s
  all_goals
    rw [hv] at C2
    go_enter Try.func74, Try.ntmps74
    go_wp2_with fail
    refine (C1.out _ (h.ext eb)).mono ?_; rintro _ w1 ⟨v1, rfl, ho1, he1⟩; obtain ⟨A1, c1, hv1, r1⟩ := OwnL.rd ho1 hl; subst hv1
    have ex := Ext_alloc (.cells #[.slice A1 l.length c1, .int .i64 s] 51) (Ext.refl w1)
    have B2 := fun w' (e : Ext (w1.alloc (.cells #[.slice A1 l.length c1, .int .i64 s] 51)) w') => boxed e
    have F2 := fun w' (e : Ext (w1.alloc (.cells #[.slice A1 l.length c1, .int .i64 s] 51)) w') => boxed_free e
    have e1x := he1.trans ex
    go_wp2_with fail
    refine (C2.out _ (h.ext (eb.trans e1x))).mono ?_; rintro _ w2 ⟨rfl, he2⟩
    have e12 := e1x.trans he2
    have hs1 : w.heap.size + 1 < w1.heap.size := by have := he1.size; simp at this; omega
    have hs2 : w1.heap.size < w2.heap.size := by have := he2.size; simp at this; omega
    have o2 := (OwnL.ext ho1 ex).ext he2
    have HN : Hid ((Value.slice A1 l.length c1).ownBlock ≠ some w1.heap.size) := OwnL.lt_ne ho1 (.inr (Nat.le_refl _))
    have hB0 := B0 _ e12; have hB1 := B1 _ e12; have hF1 := F1 _ e12; have hB2 := B2 _ he2; have hF2 := F2 _ he2
    have hz0 := hB1 0; have hz1 := hB1 1; have hy0 := hB2 0; have hy1 := hB2 1
    simp at hz0 hz1 hy0 hy1
    go_wp2
    first
      | (obtain ⟨s0, s1⟩ := stored2 hB1
         refine bodyPost_ret (v := .agg #[.slice A1 l.length c1, .int .i64 s]) (by simp [results, Try.results74, go_sem, s0, s1]) rfl ⟨_, rfl, ?_, ?_⟩
         · exact OwnL.lower (ownsRow_setCell_below (ownsRow_setCell_below o2 (by simp) _) (by simp) _) eb
         · exact ((eb.trans e12).setCell (by simp) _).setCell (by simp) _)
      | (have hB1' : ∀ u i, (w2.setCell ⟨w1.heap.size, 1, none⟩ u).cell? ⟨w.heap.size + 1, i, none⟩ = #[Value.slice none 0 0, Value.int .i64 0][i]? := by
           intro u i
           have hoth : (w2.setCell ⟨w1.heap.size, 1, none⟩ u).cell? ⟨w.heap.size + 1, i, none⟩ = w2.cell? ⟨w.heap.size + 1, i, none⟩ := by
             apply World.cell?_setCell_other
             intro hh; injection hh with hh; omega
           exact hoth.trans (hB1 i)
         obtain ⟨s0, s1⟩ := stored2 (hB1' (.int .i64 l.length))
         refine bodyPost_ret (v := .agg #[.slice A1 l.length c1, .int .i64 l.length]) (by simp [results, Try.results74, go_sem, s0, s1]) rfl ⟨_, rfl, ?_, ?_⟩
         · exact OwnL.lower (ownsRow_setCell_below (ownsRow_setCell_below (OwnL.set o2 _ _ HN.out) (by simp) _) (by simp) _) eb
         · exact (((eb.trans e12).setCell (by simp; omega) _).setCell (by simp) _).setCell (by simp) _)

set_option maxRecDepth 100000 in
set_option maxHeartbeats 2000000 in
theorem sStoreLog_c (A : Option Addr) (l : List UInt8) (c : Nat) (s : Int) (w : World) (h : Bs w A l c) (hL : l.length ≤ 1099511627776) :
    Calls Try.prog 71 #[vlog (.slice A l.length c) s] w fun e w' => ∃ v, e = .returned (vlog v (storeAt l s)) ∧ OwnL vu8 5 w w' v l ∧ Ext w w' := by
  have hl := h.len
  have eb := Ext_alloc (.cells #[.slice none 0 0, .int .i64 0] 51) (Ext_alloc (.cells #[.slice A l.length c, .int .i64 s] 51) (Ext.refl w))
  have BX := fun w' (e : Ext ((w.alloc (.cells #[.slice A l.length c, .int .i64 s] 51)).alloc (.cells #[.slice none 0 0, .int .i64 0] 51)) w') => boxed2 e
  have B0 := fun w' e => (BX w' e).1
  have B1 := fun w' e => (BX w' e).2.1
  have F1 := fun w' e => (BX w' e).2.2.2.1
  clear BX
  have C1 := Lib.hid (fun w h => sCopyLog_c A l c s w h)
  have C2 := Lib.hid (fun w h => sIsValidLog_c A l c s w h hL)
  unfold storeAt
  unfold vlog at *
  cases hv : validLog l s
  all_goals
    rw [hv] at C2
    go_enter Try.func71, Try.ntmps71
    go_wp2_with fail
    refine (C1.out _ (h.ext eb)).mono ?_; rintro _ w1 ⟨v1, rfl, ho1, he1⟩; obtain ⟨A1, c1, hv1, r1⟩ := OwnL.rd ho1 hl; subst hv1
    have ex := Ext_alloc (.cells #[.slice A1 l.length c1, .int .i64 s] 51) (Ext.refl w1)
    have B2 := fun w' (e : Ext (w1.alloc (.cells #[.slice A1 l.length c1, .int .i64 s] 51)) w') => boxed e
    have F2 := fun w' (e : Ext (w1.alloc (.cells #[.slice A1 l.length c1, .int .i64 s] 51)) w') => boxed_free e
    have e1x := he1.trans ex
    go_wp2_with fail
    refine (C2.out _ (h.ext (eb.trans e1x))).mono ?_; rintro _ w2 ⟨rfl, he2⟩
    have e12 := e1x.trans he2
    have hs1 : w.heap.size + 1 < w1.heap.size := by have := he1.size; simp at this; omega
    have hs2 : w1.heap.size < w2.heap.size := by have := he2.size; simp at this; omega
    have o2 := (OwnL.ext ho1 ex).ext he2
    have HN : Hid ((Value.slice A1 l.length c1).ownBlock ≠ some w1.heap.size) := OwnL.lt_ne ho1 (.inr (Nat.le_refl _))
    have hB0 := B0 _ e12; have hB1 := B1 _ e12; have hF1 := F1 _ e12; have hB2 := B2 _ he2; have hF2 := F2 _ he2
    have hz0 := hB1 0; have hz1 := hB1 1; have hy0 := hB2 0; have hy1 := hB2 1
    simp at hz0 hz1 hy0 hy1
    go_wp2
    first
      | (obtain ⟨s0, s1⟩ := stored2 hB1
         refine bodyPost_ret (v := .agg #[.slice A1 l.length c1, .int .i64 s]) (by simp [results, Try.results71, go_sem, s0, s1]) rfl ⟨_, rfl, ?_, ?_⟩
         · exact OwnL.lower (ownsRow_setCell_below (ownsRow_setCell_below o2 (by simp) _) (by simp) _) eb
         · exact ((eb.trans e12).setCell (by simp) _).setCell (by simp) _)
      | (have hB1' : ∀ u i, (w2.setCell ⟨w1.heap.size, 1, none⟩ u).cell? ⟨w.heap.size + 1, i, none⟩ = #[Value.slice none 0 0, Value.int .i64 0][i]? := by
           intro u i
           have hoth : (w2.setCell ⟨w1.heap.size, 1, none⟩ u).cell? ⟨w.heap.size + 1, i, none⟩ = w2.cell? ⟨w.heap.size + 1, i, none⟩ := by
             apply World.cell?_setCell_other
             intro hh; injection hh with hh; omega
           exact hoth.trans (hB1 i)
         obtain ⟨s0, s1⟩ := stored2 (hB1' (.int .i64 l.length))
         refine bodyPost_ret (v := .agg #[.slice A1 l.length c1, .int .i64 l.length]) (by simp [results, Try.results71, go_sem, s0, s1]) rfl ⟨_, rfl, ?_, ?_⟩
         · exact OwnL.lower (ownsRow_setCell_below (ownsRow_setCell_below (OwnL.set o2 _ _ HN.out) (by simp) _) (by simp) _) eb
         · exact (((eb.trans e12).setCell (by simp; omega) _).setCell (by simp) _).setCell (by simp) _)

/-- where a crashed log is cut, what is stored of it -/
def keptOf (l : List UInt8) (s k : Int) : Nat := (min (max k s) (l.length : Int)).toNat
def crashEnd (l : List UInt8) (s k : Int) : Nat := if validLog l s then stop (l.take (keptOf l s k)) 0 else l.length
def crashAt (l : List UInt8) (s k : Int) : Int := if validLog l s then stop (l.take (keptOf l s k)) 0 else s
theorem keptOf_facts {l : List UInt8} {s k : Int} (h : validLog l s = true) : keptOf l s k ≤ l.length ∧ (if (l.length : Int) < (if k < s then s else k) then (l.length : Int) else (if k < s then s else k)) = (keptOf l s k : Int) ∧
    (if s < (if (l.length : Int) < k then (l.length : Int) else k) then (if (l.length : Int) < k then (l.length : Int) else k) else s) = (keptOf l s k : Int) := by
  have hf := validLog_facts h
  unfold keptOf
  refine ⟨by omega, ?_, ?_⟩
  · split <;> split <;> omega
  · split <;> split <;> omega
theorem crashEnd_le {l : List UInt8} {s k : Int} (h : validLog l s = true) : stop (l.take (keptOf l s k)) 0 ≤ l.length := by
  have h1 := (stop_le (b := l.take (keptOf l s k)) (a := 0) (by omega)).1
  rw [List.length_take] at h1; omega


set_option maxRecDepth 100000 in
set_option maxHeartbeats 4000000 in
theorem iCrashLog_c (A : Option Addr) (l : List UInt8) (c : Nat) (s k : Int) (w : World) (hA : Bs w A l c) (hL : l.length ≤ 1099511627776) :
    Calls Try.prog 79 #[vlog (.slice A l.length c) s, .int .i64 k] w fun e w' => ∃ v, e = .returned (vlog v (crashAt l s k)) ∧ OwnL vu8 5 w w' v (l.take (crashEnd l s k)) ∧ Ext w w' := by
  have hl := hA.len
  have hcap := hA.cap
  have eb := Ext_alloc (.cells #[.slice none 0 0, .int .i64 0] 51) (Ext_alloc (.cells #[.slice A l.length c, .int .i64 s] 51) (Ext.refl w))
  have BX := fun w' (e : Ext ((w.alloc (.cells #[.slice A l.length c, .int .i64 s] 51)).alloc (.cells #[.slice none 0 0, .int .i64 0] 51)) w') => boxed2 e
  have B0 := fun w' e => (BX w' e).1
  have B1 := fun w' e => (BX w' e).2.1
  have F1 := fun w' e => (BX w' e).2.2.2.1
  clear BX
  have C1 := Lib.hid (fun w h => iCopyLog_c A l c s w h)
  have C2 := Lib.hid (fun w h => iIsValidLog_c A l c s w h hL)
  unfold vlog at *
  cases hv : validLog l s
  · have HV : Hid (crashAt l s k = s ∧ l.take (crashEnd l s k) = l) := by
      show _ ∧ _; unfold crashAt crashEnd; rw [hv]; simp
    rw [hv] at C2
    rw [HV.out.1, HV.out.2]
    go_enter Try.func79, Try.ntmps79
    go_wp2_with fail
    refine (C1.out _ (hA.ext eb)).mono ?_; rintro _ w1 ⟨v1, rfl, ho1, he1⟩; obtain ⟨A1, c1, hv1, r1⟩ := OwnL.rd ho1 hl; subst hv1
    have ex := Ext_alloc (.cells #[.slice A1 l.length c1, .int .i64 s] 51) (Ext.refl w1)
    have B2 := fun w' (e : Ext (w1.alloc (.cells #[.slice A1 l.length c1, .int .i64 s] 51)) w') => boxed e
    have e1x := he1.trans ex
    go_wp2_with fail
    refine (C2.out _ (hA.ext (eb.trans e1x))).mono ?_; rintro _ w2 ⟨rfl, he2⟩
    have e12 := e1x.trans he2
    have o2 := (OwnL.ext ho1 ex).ext he2
    have hB1 := B1 _ e12
    go_wp2
    obtain ⟨s0, s1⟩ := stored2 hB1
    refine bodyPost_ret (v := .agg #[.slice A1 l.length c1, .int .i64 s]) (by simp [results, Try.results79, go_sem, s0, s1]) rfl ⟨_, rfl, ?_, ?_⟩
    · exact OwnL.lower (ownsRow_setCell_below (ownsRow_setCell_below o2 (by simp) _) (by simp) _) eb
    · exact ((eb.trans e12).setCell (by simp) _).setCell (by simp) _
  · obtain ⟨m, hm⟩ : ∃ m, keptOf l s k = m := ⟨_, rfl⟩
    obtain ⟨k1, k2, _⟩ := keptOf_facts (k := k) hv
    have k3 := crashEnd_le (k := k) hv
    rw [hm] at k1 k2 k3
    obtain ⟨E, hE⟩ : ∃ E, stop (l.take m) 0 = E := ⟨_, rfl⟩
    rw [hE] at k3
    have HV : Hid (crashAt l s k = E ∧ crashEnd l s k = E) := by
      show _ ∧ _; unfold crashAt crashEnd; rw [hv, hm, hE]; simp
    have CM1 := Lib.hid (fun w => iMax_c k s w)
    obtain ⟨M, hM⟩ : ∃ M, (if k < s then s else k) = M := ⟨_, rfl⟩
    rw [hM] at CM1 k2
    have CM2 := Lib.hid (fun w => iMin_c M (l.length : Int) w)
    rw [k2] at CM2
    clear k2 hM
    have C3 : Hid (∀ A' c' w', Bs w' A' (l.take m) c' → Calls Try.prog 125 #[.slice A' m c'] w' fun e w'' => ∃ v ps, e = .returned (.tuple #[v, .int .i64 (E : Nat)]) ∧ ps.map Prod.fst = recs (l.take m) 0 ∧ OwnR w' w'' v ps ∧ Ext w' w'') := by
      intro A' c' w' h'
      have := iReadRecords_c A' (l.take m) c' w' h' (by simp; omega)
      rw [show (l.take m).length = m by simp; omega, hE] at this
      exact this
    rw [hv] at C2
    rw [HV.out.1, HV.out.2]
    clear hm hE
    go_enter Try.func79, Try.ntmps79
    go_wp2_with fail
    refine (C1.out _ (hA.ext eb)).mono ?_; rintro _ w1 ⟨v1, rfl, ho1, he1⟩; obtain ⟨A1, c1, hv1, r1⟩ := OwnL.rd ho1 hl; subst hv1
    have hc1 := r1.cap
    have ex := Ext_alloc (.cells #[.slice A1 l.length c1, .int .i64 s] 51) (Ext.refl w1)
    have B2 := fun w' (e : Ext (w1.alloc (.cells #[.slice A1 l.length c1, .int .i64 s] 51)) w') => boxed e
    have e1x := he1.trans ex
    go_wp2_with fail
    refine (C2.out _ (hA.ext (eb.trans e1x))).mono ?_; rintro _ w2 ⟨rfl, he2⟩
    have e12 := e1x.trans he2
    go_wp2_with fail
    refine wp_region_quiet_below (by kernel_rfl) (by kernel_rfl) ?_
    repeat (go_big_quiet_step ((first | (go_at_call 124; exact Calls.regrown_of (CM1.out _)) | (go_at_call 123; exact Calls.regrown_of (CM2.out _)))))
    refine wpQuiet_nil ?_
    rintro w3 ⟨⟨nq, osq⟩, hq⟩
    have ew3 := ext_of_q hq
    clear hq nq osq
    have e13 := e12.trans ew3
    have e23 := he2.trans ew3
    go_wp2_with fail
    refine (C3.out _ _ _ ((hA.ext (eb.trans e13)).take m)).mono ?_; rintro _ w4 ⟨v4, p4, rfl, _, _, he4⟩
    have e14 := e13.trans he4
    have e24 := e23.trans he4
    have o4 := OwnL.ext (OwnL.take ho1 k3) (ex.trans e24)
    have hB1 := B1 _ e14
    go_wp2
    obtain ⟨s0, s1⟩ := stored2 hB1
    refine bodyPost_ret (v := .agg #[.slice A1 E c1, .int .i64 E]) (by simp [results, Try.results79, go_sem, s0, s1]) rfl ⟨_, rfl, ?_, ?_⟩
    · exact OwnL.lower (ownsRow_setCell_below (ownsRow_setCell_below o4 (by simp) _) (by simp) _) eb
    · exact ((eb.trans e14).setCell (by simp) _).setCell (by simp) _
end Go.Proofs.Ytlaejcacembjiaa

/- CrashLog of the reference; AppendRecord of both. -/
namespace Go.Proofs.Ytlaejcacembjiaa
open Go.RowKit Go.Sort

set_option maxRecDepth 100000 in
set_option maxHeartbeats 4000000 in
theorem sCrashLog_c (A : Option Addr) (l : List UInt8) (c : Nat) (s k : Int) (w : World) (hA : Bs w A l c) (hL : l.length ≤ 1099511627776) :
    Calls Try.prog 78 #[vlog (.slice A l.length c) s, .int .i64 k] w fun e w' => ∃ v, e = .returned (vlog v (crashAt l s k)) ∧ OwnL vu8 5 w w' v (l.take (crashEnd l s k)) ∧ Ext w w' := by
  have hl := hA.len
  have hcap := hA.cap
  have eb := Ext_alloc (.cells #[.slice none 0 0, .int .i64 0] 51) (Ext_alloc (.cells #[.slice A l.length c, .int .i64 s] 51) (Ext.refl w))
  have BX := fun w' (e : Ext ((w.alloc (.cells #[.slice A l.length c, .int .i64 s] 51)).alloc (.cells #[.slice none 0 0, .int .i64 0] 51)) w') => boxed2 e
  have B0 := fun w' e => (BX w' e).1
  have B1 := fun w' e => (BX w' e).2.1
  have F1 := fun w' e => (BX w' e).2.2.2.1
  clear BX
  have C1 := Lib.hid (fun w h => sCopyLog_c A l c s w h)
  have C2 := Lib.hid (fun w h => sIsValidLog_c A l c s w h hL)
  unfold vlog at *
  cases hv : validLog l s
  · have HV : Hid (crashAt l s k = s ∧ l.take (crashEnd l s k) = l) := by
      show _ ∧ _; unfold crashAt crashEnd; rw [hv]; simp
    rw [hv] at C2
    rw [HV.out.1, HV.out.2]
    go_enter Try.func78, Try.ntmps78
    go_wp2_with fail
    refine (C2.out _ (hA.ext eb)).mono ?_; rintro _ w2 ⟨rfl, he2⟩
    go_wp2_with fail
    refine (C1.out _ (hA.ext (eb.trans he2))).mono ?_; rintro _ w1 ⟨v1, rfl, ho1, he1⟩; obtain ⟨A1, c1, hv1, r1⟩ := OwnL.rd ho1 hl; subst hv1
    have e12 := he2.trans he1
    have hs1 : w.heap.size + 1 < w2.heap.size := by have := he2.size; simp at this; omega
    have hB1 := B1 _ e12
    go_wp2
    obtain ⟨s0, s1⟩ := stored2 hB1
    refine bodyPost_ret (v := .agg #[.slice A1 l.length c1, .int .i64 s]) (by simp [results, Try.results78, go_sem, s0, s1]) rfl ⟨_, rfl, ?_, ?_⟩
    · exact OwnL.lower (ownsRow_setCell_below (ownsRow_setCell_below ho1 (by omega) _) (by omega) _) (eb.trans he2)
    · exact ((eb.trans e12).setCell (by simp) _).setCell (by simp) _
  · obtain ⟨m, hm⟩ : ∃ m, keptOf l s k = m := ⟨_, rfl⟩
    obtain ⟨k1, _, k2⟩ := keptOf_facts (k := k) hv
    have k3 := crashEnd_le (k := k) hv
    rw [hm] at k1 k2 k3
    obtain ⟨E, hE⟩ : ∃ E, stop (l.take m) 0 = E := ⟨_, rfl⟩
    rw [hE] at k3
    have HV : Hid (crashAt l s k = E ∧ crashEnd l s k = E) := by
      show _ ∧ _; unfold crashAt crashEnd; rw [hv, hm, hE]; simp
    have CM1 := Lib.hid (fun w => sMin_c k (l.length : Int) w)
    obtain ⟨M, hM⟩ : ∃ M, (if (l.length : Int) < k then (l.length : Int) else k) = M := ⟨_, rfl⟩
    rw [hM] at CM1 k2
    have CM2 := Lib.hid (fun w => sMax_c s M w)
    rw [k2] at CM2
    clear k2 hM
    have C3 : Hid (∀ A' c' w', Bs w' A' (l.take m) c' → Calls Try.prog 120 #[.slice A' m c'] w' fun e w'' => ∃ v ps, e = .returned (.tuple #[v, .int .i64 (E : Nat)]) ∧ ps.map Prod.fst = recs (l.take m) 0 ∧ OwnR w' w'' v ps ∧ Ext w' w'') := by
      intro A' c' w' h'
      have := sReadRecords_c A' (l.take m) c' w' h' (by simp; omega)
      rw [show (l.take m).length = m by simp; omega, hE] at this
      exact this
    rw [hv] at C2
    rw [HV.out.1, HV.out.2]
    have HEL : Hid (E = (l.take E).length) := by show _ = _; simp; omega
    have HB2 : Hid ((([] : List UInt8).length + (l.take E).length) * 1 ≤ 140737488355328) := by show _ ≤ _; simp; omega
    have g1 : (m : Int) ≤ (c : Int) := by omega
    have g1' : m ≤ c := by omega
    clear hm hE
    go_enter Try.func78, Try.ntmps78
    go_wp2_with fail
    refine (C2.out _ (hA.ext eb)).mono ?_; rintro _ w2 ⟨rfl, he2⟩
    have B0' := fun w' (e : Ext w2 w') => B0 w' (he2.trans e)
    go_wp2_with fail
    go_region_held3 (fun w' => Ext w2 w') (first | assumption | exact Ext_drew (Ext.refl _) | exact Ext.trans (by assumption) (by assumption)) (first
      | (go_at_call 122; refine (CM1.out _).mono ?_; rintro _ w3 ⟨rfl, he3⟩)
      | (go_at_call 121; refine (CM2.out _).mono ?_; rintro _ w4 ⟨rfl, he4⟩)
      | (go_at_call 120; refine (C3.out _ _ _ ((hA.ext ((eb.trans he2).trans (by assumption))).take m)).mono ?_; rintro _ w5 ⟨v5, p5, rfl, _, _, he5⟩))
    have e25 : Ext w2 w5 := by assumption
    have e15 := he2.trans e25
    clear he3 he4 he5 B0'
    have HS : Hid (w.heap.size + 1 < w5.heap.size) := by have := e15.size; simp at this; show _ < _; omega
    go_wp2_with (first
      | (at_builtin; refine wpList_appL rfl (.tmp 27) (.tmp 31) _ rfl E_u8 (by omega) w5 _ vu8 (fun _ => rfl) _ rfl _ _ _ rfl [] (l.take E) (OwnL.empty (Ext.refl _)) (Ext_alloc _ (Ext.refl _)) HEL.out (((hA.ext (eb.trans e15)).take E).src (Ext_alloc _ (Ext.refl _))) HB2.out ?_; intro v6 w6 ho6 he6 _ _; have e16 := e15.trans he6; rw [List.nil_append] at ho6; obtain ⟨A6, c6, hv6, r6⟩ := OwnL.rd ho6 (by rw [← HEL.out]; omega); rw [← HEL.out] at hv6; subst hv6))
    have hB1 := B1 _ e16
    obtain ⟨s0, s1⟩ := stored2 hB1
    refine bodyPost_ret (v := .agg #[.slice A6 E c6, .int .i64 E]) (by simp [results, Try.results78, go_sem, s0, s1]) rfl ⟨_, rfl, ?_, ?_⟩
    · exact OwnL.lower (ownsRow_setCell_below (ownsRow_setCell_below ho6 HS.out _) HS.out _) (eb.trans e15)
    · exact ((eb.trans e16).setCell (by simp) _).setCell (by simp) _
end Go.Proofs.Ytlaejcacembjiaa

/- AppendRecord of the program and of the reference. -/
namespace Go.Proofs.Ytlaejcacembjiaa
open Go.RowKit Go.Sort

section
variable {P : Program} {ops : Array Oper} {o : Oper} {a : Act} {Q : Exit → Act → World → Prop} {K : Act → World → Prop} {E : Prop}
/-- append(s, ys...) in a region that draws, with what becomes of the block -/
theorem step_appG (hgd : o.guard = none) (s x : Operand) (t : TypeId) (ho : o.op = .call { callee := .builtin .append, args := #[s, x], argTypes := #[t, t] })
    {e : TypeId} {bytes : Nat} {z : Value} (hE : Elem P t e 1 bytes z) (hby : 1 ≤ bytes) (w0 w : World) {α : Type} (f : α → Value) (hf : ∀ x, (f x).oneCell' = true) (v : Value) (hs : a.eval s = v) (A : Option Addr) (m c : Nat) (hx : a.eval x = .slice A m c)
    (l ys : List α) (hown : OwnL f e w0 w v l) (he : Ext w0 w) (hm : m = ys.length)
    (hA : 0 < ys.length → ∃ ad, A = some ad ∧ ∀ j u, (ys.map f)[j]? = some u → w.cell? (ad.add j) = some u)
    (hb : (l.length + ys.length) * bytes ≤ 140737488355328)
    (h : ∀ v' w', OwnL f e w0 w' v' (l ++ ys) → Ext w0 w' → (v'.ownBlock = v.ownBlock ∨ v'.ownBlock = some w.heap.size) → w.grownBy w' v.ownBlock → K (a.put o.dst v') w') :
    if Region.wanted o (yielded ops a.tmps) = true then Oper.wp P o a w K Q else E := by
  have hw : Region.wanted o (yielded ops a.tmps) = true := by simp [Region.wanted, hgd]
  rw [if_pos hw]
  obtain ⟨i0, hi0, hz0, hz1, hz2⟩ := info_parts hE.hi
  subst hm
  have hfin : ∀ v' w', Own e 1 w0 w' v' (l.length + ys.length) (l.map f ++ ys.map f) → Ext w0 w' → (v'.ownBlock = v.ownBlock ∨ v'.ownBlock = some w.heap.size) → w.grownBy w' v.ownBlock → K (a.put o.dst v') w' := fun v' w' h1 h2 h3 h4 => h v' w' (by simpa [OwnL] using h1) h2 h3 h4
  rcases A with _ | ad
  · have hm0 : ys.length = 0 := by
      rcases Nat.eq_zero_or_pos ys.length with h0 | h0
      · exact h0
      · obtain ⟨ad, h, _⟩ := hA h0
        cases h
    obtain rfl : ys = [] := List.eq_nil_of_length_eq_zero hm0
    unfold Oper.wp execOp
    simp only [ho, resolve, invoke, builtin, Sem.run_bind, Sem.run_pure, Result.andThen_ok, List.map_toArray, List.map_cons, List.map_nil, List.length_nil, hs, hx, run_app_nil w w0.heap.size t o.type e i0 1 hE.ht hi0 v l.length (l.map f) hown c]
    exact hfin v w (by have h' := hown; unfold OwnL at h'; simpa using h') he (.inl rfl) (World.grownBy.refl w _)
  · obtain ⟨v', w', hr, h2, h3, h4, h5⟩ := run_append_own_at (P := P) w w0.heap.size t o.type e i0 z 1 bytes hE.ht hi0 hz0 hz1 hz2 hE.hz hE.hs v l.length (l.map f) hown ad ys.length c (ys.map f) (by simp)
      (fun j u hu => by
        rcases Nat.eq_zero_or_pos ys.length with h0 | h0
        · obtain rfl : ys = [] := List.eq_nil_of_length_eq_zero h0
          simp at hu
        · obtain ⟨ad', h', hc⟩ := hA h0
          injection h' with h'
          subst h'
          exact hc j u hu)
      (fun u hu => by obtain ⟨x, _, rfl⟩ := List.mem_map.1 hu; exact hf x) (by have := Nat.mul_le_mul_left (l.length + ys.length) hby; simp only [maxLen]; omega) hb he.size
    unfold Oper.wp execOp
    simp only [ho, resolve, invoke, builtin, Sem.run_bind, Sem.run_pure, Result.andThen_ok, List.map_toArray, List.map_cons, List.map_nil, hs, hx, hr]
    exact hfin v' w' h2 (he.grown h3 (fun k hk => (hown.lt k hk).1)) h5 h3
end
def appOk (l : List UInt8) (s k : Int) (nm : ByteArray) (ver : Int) (d : List UInt8) : Bool := validLog l s && validRec k nm ver d.length
def appBytes (l : List UInt8) (s k : Int) (nm : ByteArray) (ver : Int) (d : List UInt8) : List UInt8 := if appOk l s k nm ver d then l ++ encRec k nm ver d else l


end Go.Proofs.Ytlaejcacembjiaa

/- The stored files of a list of records, by the reference. -/
namespace Go.Proofs.Ytlaejcacembjiaa
open Go.RowKit Go.Sort

def DRec.file (r : DRec) : DFile := ⟨r.nm, r.ver, r.l⟩
def keepF (r : DRec) (f : DFile) : Option DFile := if f.nm.toList == r.nm.toList then (if r.k == 1 then some r.file else none) else some f
def anyF (r : DRec) (fs : List DFile) : Bool := fs.any fun f => f.nm.toList == r.nm.toList
def applyF (fs : List DFile) (r : DRec) : List DFile := fs.filterMap (keepF r) ++ (if (r.k == 1) && !(anyF r fs) then [r.file] else [])
def filesOf (rs : List DRec) : List DFile := rs.foldl applyF []
theorem applyF_len (fs : List DFile) (r : DRec) : (applyF fs r).length ≤ fs.length + 1 := by
  unfold applyF
  rw [List.length_append]
  have h1 := List.length_filterMap_le (keepF r) fs
  split <;> simp <;> omega
theorem filesOf_snoc (rs : List DRec) (r : DRec) : filesOf (rs ++ [r]) = applyF (filesOf rs) r := by unfold filesOf; rw [List.foldl_append]; rfl
theorem foldF_len (rs : List DRec) : ∀ fs : List DFile, (rs.foldl applyF fs).length ≤ fs.length + rs.length := by
  induction rs with
  | nil => intro fs; simp
  | cons r t ih =>
    intro fs
    have h1 := ih (applyF fs r)
    have h2 := applyF_len fs r
    rw [List.foldl_cons, List.length_cons]
    omega
theorem filesOf_len (rs : List DRec) : (filesOf rs).length ≤ rs.length := by
  have := foldF_len rs []
  unfold filesOf; simpa using this
def keepP (r : DRec) (fd : Value) (p : DFile × Value) : Option (DFile × Value) := if p.1.nm.toList == r.nm.toList then (if r.k == 1 then some (r.file, fd) else none) else some p
theorem keepP_fst (r : DRec) (fd : Value) (ps : List (DFile × Value)) : (ps.filterMap (keepP r fd)).map Prod.fst = (ps.map Prod.fst).filterMap (keepF r) := by
  rw [List.map_filterMap, List.filterMap_map]
  congr 1
  funext p
  show (keepP r fd p).map Prod.fst = keepF r p.1
  unfold keepP keepF
  cases (p.1.nm.toList == r.nm.toList) <;> cases (r.k == 1) <;> rfl
/-- an own row of files whose data read -/
theorem rdF_of {w0 w : World} {v : Value} {ps : List (DFile × Value)} (h : Own 102 3 w0 w v ps.length (ps.flatMap fcells)) (hl : ps.length ≤ 1099511627776)
    (hdat : ∀ p ∈ ps, ∃ A' c', p.2 = .slice A' p.1.l.length c' ∧ Bs w A' p.1.l c') : ∃ A c, v = .slice A ps.length c ∧ RdF w A ps c := by
  rcases h.2 with ⟨rfl, h0⟩ | ⟨g, cap, cur, rfl, hb, hg, hnc, hcm, hcs, htake⟩
  · exact ⟨none, 0, by rw [h0], by omega, hl, hdat, fun hp => by omega⟩
  · refine ⟨_, _, rfl, by omega, hl, hdat, fun hp => ⟨g, rfl, heap_lt hg, fun w' e i hi => ?_⟩⟩
    have hc : ∀ j, j < 3 → w'.cell? ⟨g, i * 3 + j, none⟩ = (fcells ps[i])[j]? := by
      intro j hj
      rw [boxed_at hg e, ← fcells_get ps i j hi hj, ← htake, List.getElem?_take, if_pos (by omega)]
      simp
    exact ⟨by have := hc 0 (by omega); simpa [fcells] using this, by have := hc 1 (by omega); simpa [fcells] using this, by have := hc 2 (by omega); simpa [fcells] using this⟩
theorem own_nb {v4 : Value} {a b n : Nat} (h : v4.ownBlock = (Value.slice (some ⟨a, 0, none⟩) 0 0).ownBlock ∨ v4.ownBlock = some n) (h1 : a ≠ b) (h2 : n ≠ b) : v4.ownBlock ≠ some b := by
  intro hh
  rcases h with h | h
  · have : some b = some a := hh.symm.trans h
    injection this with this; exact h1 this.symm
  · have : some b = some n := hh.symm.trans h
    injection this with this; exact h2 this.symm
theorem file_laid {W2 w4 : World} {g : Nat} {nm : ByteArray} {ver : Int} {v : Value} {l : List UInt8} (hb : Box w4 g #[.string ⟨#[]⟩, .int .i64 0, .slice none 0 0] 102) (ho : OwnL vu8 5 W2 w4 v l) (hne : v.ownBlock ≠ some g) (hg : W2.heap.size ≤ g) (he : Ext W2 w4) :
    Box (((w4.setCell ⟨g, 0, none⟩ (.string nm)).setCell ⟨g, 1, none⟩ (.int .i64 ver)).setCell ⟨g, 2, none⟩ v) g #[.string nm, .int .i64 ver, v] 102 ∧ OwnL vu8 5 W2 (((w4.setCell ⟨g, 0, none⟩ (.string nm)).setCell ⟨g, 1, none⟩ (.int .i64 ver)).setCell ⟨g, 2, none⟩ v) v l ∧ W2.heap.size ≤ g ∧ Ext W2 (((w4.setCell ⟨g, 0, none⟩ (.string nm)).setCell ⟨g, 1, none⟩ (.int .i64 ver)).setCell ⟨g, 2, none⟩ v) := by
  refine ⟨?_, ((ho.set ⟨g, 0, none⟩ _ hne).set ⟨g, 1, none⟩ _ hne).set ⟨g, 2, none⟩ _ hne, hg, ((he.setCell (p := ⟨g, 0, none⟩) hg _).setCell (p := ⟨g, 1, none⟩) hg _).setCell (p := ⟨g, 2, none⟩) hg _⟩
  have := ((hb.set 0 (.string nm)).set 1 (.int .i64 ver)).set 2 v
  simpa using this
theorem OwnL.moved' {α : Type} {f : α → Value} {e : TypeId} {w0 w w' : World} {v : Value} {l : List α} (h : OwnL f e w0 w v l) {row : Option Nat} (hg : w.grownBy w' row) (hne : ∀ b, row = some b → v.ownBlock ≠ some b) : OwnL f e w0 w' v l := by
  refine World.ownsRow.kept h hg ?_
  cases hb : v.ownBlock with
  | none => exact .inl rfl
  | some g => right; exact fun he => hne g he.symm hb
theorem keepP_take {r : DRec} {fd : Value} {ps : List (DFile × Value)} {k : Nat} (h : k < ps.length) : (ps.take (k + 1)).filterMap (keepP r fd) = (ps.take k).filterMap (keepP r fd) ++ (keepP r fd ps[k]).toList := by
  rw [List.take_succ_eq_append_getElem h, List.filterMap_append]
  congr 1
def doneF (r : DRec) (ps : List (DFile × Value)) (k : Nat) : Bool := (r.k == 1) && anyF r ((ps.take k).map Prod.fst)
theorem doneF_take {r : DRec} {ps : List (DFile × Value)} {k : Nat} (h : k < ps.length) : doneF r ps (k + 1) = (doneF r ps k || ((r.k == 1) && (ps[k].1.nm.toList == r.nm.toList))) := by
  unfold doneF anyF
  rw [List.take_succ_eq_append_getElem h, List.map_append, List.any_append]
  cases (r.k == 1) <;> simp
/-- what the loop of l35Apply keeps of its row, the file's box, the data -/
structure Keep (W1 W2 wr : World) (g : Nat) (r : DRec) (fd : Value) (v : Value) (qs : List (DFile × Value)) : Prop where
  row : Own 102 3 W1 wr v qs.length (qs.flatMap fcells)
  box : Box wr g #[.string r.nm, .int .i64 r.ver, fd] 102
  data : OwnL vu8 5 W2 wr fd r.l
  ng : v.ownBlock ≠ some g
  nd : ∀ b, v.ownBlock = some b → fd.ownBlock ≠ some b
  ext : Ext W1 wr
theorem Keep.to {W1 W2 wr w' : World} {g : Nat} {r : DRec} {fd v : Value} {qs : List (DFile × Value)} (h : Keep W1 W2 wr g r fd v qs) (e : Ext wr w') : Keep W1 W2 w' g r fd v qs :=
  ⟨Own.ext h.row e, h.box.ext e, OwnL.ext h.data e, h.ng, h.nd, h.ext.trans e⟩
theorem Keep.app {W1 W2 wr w' : World} {g : Nat} {r : DRec} {fd v v' : Value} {qs : List (DFile × Value)} {q : DFile × Value} {cs : Array Value} {T : TypeId} (h : Keep W1 W2 wr g r fd v qs) (h2 : Own 102 3 W1 w' v' (qs.length + 1) (qs.flatMap fcells ++ fcells q)) (he : Ext W1 w')
    (hb : v'.ownBlock = v.ownBlock ∨ v'.ownBlock = some (wr.alloc (.cells cs T)).heap.size) (hg : (wr.alloc (.cells cs T)).grownBy w' v.ownBlock) : Keep W1 W2 w' g r fd v' (qs ++ [q]) := by
  have ex := Ext_alloc (.cells cs T) (Ext.refl wr)
  have hgl := h.box.lt
  have hdl := fun b hb => (World.ownsRow.lt h.data b hb).2
  have hsz : (wr.alloc (.cells cs T)).heap.size = wr.heap.size + 1 := by simp
  refine ⟨by simpa [List.flatMap_append, List.flatMap_cons] using h2, Box.moved (h.box.ext ex) hg h.ng, OwnL.moved' (OwnL.ext h.data ex) hg h.nd, ?_, ?_, he⟩
  · intro hh
    rcases hb with hb | hb
    · exact h.ng (hb.symm.trans hh)
    · rw [hb] at hh; injection hh with hh; omega
  · intro b hv hd
    rcases hb with hb | hb
    · exact h.nd b (hb.symm.trans hv) hd
    · rw [hb] at hv; injection hv with hv; have := hdl b hd; omega
theorem keepP_mem {r : DRec} {fd : Value} {ps : List (DFile × Value)} {q : DFile × Value} (h : q ∈ ps.filterMap (keepP r fd)) : q ∈ ps ∨ q = (r.file, fd) := by
  obtain ⟨p, hp, he⟩ := List.mem_filterMap.1 h
  unfold keepP at he
  split at he
  · split at he
    · right; injection he with he; exact he.symm
    · cases he
  · injection he with he; left; rw [← he]; exact hp
/-- a slice that the call since w made -/
def NewA (w : World) (A : Option Addr) : Prop := ∀ b off, A = some ⟨b, off, none⟩ → w.heap.size ≤ b
theorem Keep.rd {W1 W2 wr w : World} {g : Nat} {r : DRec} {A4 : Option Addr} {c4 : Nat} {v : Value} {ps qs : List (DFile × Value)} (h : Keep W1 W2 wr g r (.slice A4 r.l.length c4) v qs) (hl : qs.length ≤ 1099511627776) (hdl : r.l.length ≤ 400)
    (hp : ∀ p ∈ ps, ∃ A' c', p.2 = .slice A' p.1.l.length c' ∧ Bs w A' p.1.l c') (e : Ext w wr) (ew : Ext w W1) (hq : ∀ q ∈ qs, q ∈ ps ∨ q = (r.file, .slice A4 r.l.length c4)) : ∃ A c, v = .slice A qs.length c ∧ RdF wr A qs c ∧ NewA w A := by
  suffices h2 : ∃ A c, v = .slice A qs.length c ∧ RdF wr A qs c by
    obtain ⟨A, c, rfl, h3⟩ := h2
    refine ⟨A, c, rfl, h3, fun b off hA => ?_⟩
    subst hA
    exact Nat.le_trans ew.size (World.ownsRow.lt h.row b rfl).1
  refine rdF_of h.row hl fun q hm => ?_
  rcases hq q hm with hm | rfl
  · obtain ⟨A', c', h1, h2⟩ := hp q hm
    exact ⟨A', c', h1, h2.ext e⟩
  · exact OwnL.rd h.data (show r.l.length ≤ _ by omega)
set_option maxRecDepth 100000 in
set_option maxHeartbeats 4000000 in
theorem sApply_c (A : Option Addr) (ps : List (DFile × Value)) (c : Nat) (r : DRec) (Ad : Option Addr) (cd : Nat) (w : World) (h : RdF w A ps c) (hd : Bs w Ad r.l cd) (hdl : r.l.length ≤ 400) (hn : ps.length ≤ 1048576) :
    Calls Try.prog 126 #[.slice A ps.length c, vrec r.k r.nm r.ver (.slice Ad r.l.length cd)] w fun e w' => ∃ A' c' qs, e = .returned (.slice A' qs.length c') ∧ RdF w' A' qs c' ∧ NewA w A' ∧ qs.map Prod.fst = applyF (ps.map Prod.fst) r ∧ Ext w w' := by
  unfold vrec
  have ea := Ext_alloc (.cells #[.int .i64 r.k, .string r.nm, .int .i64 r.ver, .slice Ad r.l.length cd] 138) (Ext.refl w)
  have B0 := fun w' (e : Ext (w.alloc (.cells #[.int .i64 r.k, .string r.nm, .int .i64 r.ver, .slice Ad r.l.length cd] 138)) w') => boxed e
  obtain ⟨W1, hW1⟩ : ∃ W1, W1 = w.alloc (.cells #[.int .i64 r.k, .string r.nm, .int .i64 r.ver, .slice Ad r.l.length cd] 138) := ⟨_, rfl⟩
  have HW1 := Lib.hid hW1
  have hs1 : W1.heap.size = w.heap.size + 1 := by rw [hW1]; simp
  rw [← hW1] at ea B0
  have ey := Ext_alloc (.cells #[] 102) (Ext.refl W1)
  have HV : Hid (Own 102 3 W1 (W1.alloc (.cells #[] 102)) (.slice (some ⟨w.heap.size + 1, 0, none⟩) 0 0) 0 []) := by
    have := Own.empty (e := 102) (size := 3) (Ext.refl W1)
    rw [hs1] at this
    exact this
  obtain ⟨W2, hW2⟩ : ∃ W2, W2 = W1.alloc (.cells #[] 102) := ⟨_, rfl⟩
  have HW2 := Lib.hid hW2
  have hs2 : W2.heap.size = w.heap.size + 2 := by rw [hW2]; simp; omega
  rw [← hW2] at HV ey
  have HO : Hid (OwnL vu8 5 W2 (W2.alloc (.cells #[] 5)) (.slice (some ⟨w.heap.size + 2, 0, none⟩) 0 0) []) := by
    have := OwnL.empty (f := vu8) (e := 5) (Ext.refl W2)
    rw [hs2] at this
    exact this
  clear hW1 hW2
  go_enter Try.func126, Try.ntmps126
  go_wp2_with fail
  rw [← HW1.out, ← HW2.out]
  have HD := Lib.hid hd; have HEY := Lib.hid ey
  have HB2 : Hid ((([] : List UInt8).length + r.l.length) * 1 ≤ 140737488355328) := by show _ ≤ _; simp; omega
  have HDL : Hid (r.l.length ≤ 140737488351232) := by show _ ≤ _; omega
  have HBZ : Hid (∀ w4, (((W2.alloc (.cells #[] 5)).alloc (.cells #[.string ⟨#[]⟩, .int .i64 0, .slice none 0 0] 102)).drew).grownBy w4 (Value.slice (some ⟨w.heap.size + 2, 0, none⟩) 0 0).ownBlock → Box w4 (w.heap.size + 2 + 1) #[.string ⟨#[]⟩, .int .i64 0, .slice none 0 0] 102) := fun w4 hg => by
    have h1 := Box.moved ((Box.new (W2.alloc (.cells #[] 5)) #[.string ⟨#[]⟩, .int .i64 0, .slice none 0 0] 102).ext (Ext_drew (Ext.refl _))) hg (fun hh => by injection hh with hh; simp at hh; omega)
    rwa [show (W2.alloc (.cells #[] 5)).heap.size = w.heap.size + 2 + 1 by simp; omega] at h1
  have HO' : Hid (OwnL vu8 5 W2 ((W2.alloc (.cells #[.string ⟨#[]⟩, .int .i64 0, .slice none 0 0] 102)).alloc (.cells #[] 5)) (.slice (some ⟨w.heap.size + 2 + 1, 0, none⟩) 0 0) []) := by
    have := OwnL.empty (f := vu8) (e := 5) (Ext_alloc (.cells #[.string ⟨#[]⟩, .int .i64 0, .slice none 0 0] 102) (Ext.refl W2))
    rw [World.size_alloc, hs2] at this
    exact this
  have HBZ' : Hid (∀ w4, (((W2.alloc (.cells #[.string ⟨#[]⟩, .int .i64 0, .slice none 0 0] 102)).alloc (.cells #[] 5)).drew).grownBy w4 (Value.slice (some ⟨w.heap.size + 2 + 1, 0, none⟩) 0 0).ownBlock → Box w4 (w.heap.size + 2) #[.string ⟨#[]⟩, .int .i64 0, .slice none 0 0] 102) := fun w4 hg => by
    have h1 := Box.moved ((Box.new W2 #[.string ⟨#[]⟩, .int .i64 0, .slice none 0 0] 102).ext (Ext_drew (Ext_alloc (.cells #[] 5) (Ext.refl _)))) hg (fun hh => by injection hh with hh; simp at hh; omega)
    rwa [hs2] at h1
  have SX : Hid (∀ w', Ext W1 w' → ((w'.cell? ⟨w.heap.size, 1, none⟩ = some (.string r.nm) ∧ w'.cell? ⟨w.heap.size, 2, none⟩ = some (.int .i64 r.ver) ∧ w'.cell? ⟨w.heap.size, 3, none⟩ = some (.slice Ad r.l.length cd)) ∧ Ext W1 w')) := fun w' e => ⟨⟨B0 w' e 1, B0 w' e 2, B0 w' e 3⟩, e⟩
  go_cut [6] (fun s6 wx => ∃ g A4 c4, s6 = .pointer (some ⟨g, 0, none⟩) ∧ Box wx g #[.string r.nm, .int .i64 r.ver, .slice A4 r.l.length c4] 102 ∧ OwnL vu8 5 W2 wx (.slice A4 r.l.length c4) r.l ∧ W2.heap.size ≤ g ∧ Ext W2 wx)
  case first =>
    go_region_held3 (fun w' => (w'.cell? ⟨w.heap.size, 1, none⟩ = some (.string r.nm) ∧ w'.cell? ⟨w.heap.size, 2, none⟩ = some (.int .i64 r.ver) ∧ w'.cell? ⟨w.heap.size, 3, none⟩ = some (.slice Ad r.l.length cd)) ∧ Ext W1 w') (first | exact SX.out _ (Ext_drew ey) | exact SX.out _ (Ext_alloc _ (And.right (by assumption))) | exact SX.out _ (by assumption) | exact SX.out _ (Ext_alloc _ (by assumption)) | exact SX.out _ (((Ext.setCell (by assumption) (by simp; try omega) _).setCell (by simp; try omega) _).setCell (by simp; try omega) _) | exact SX.out _ (((Ext.setCell (And.right (by assumption)) (by simp; try omega) _).setCell (by simp; try omega) _).setCell (by simp; try omega) _)) (first
      | (refine step_appG rfl (.tmp 14) (.tmp 16) _ rfl E_u8 (by omega) W2 _ vu8 (fun _ => rfl) _ rfl _ _ _ rfl [] r.l (OwnL.ext HO.out (by first | exact Ext_drew (Ext.refl _) | exact Ext_drew (Ext_alloc _ (Ext.refl _)))) (by first | exact Ext_drew (Ext_alloc _ (Ext.refl _)) | exact Ext_drew (Ext_alloc _ (Ext_alloc _ (Ext.refl _)))) rfl ((HD.out.ext (ea.trans ey)).src (by first | exact Ext_drew (Ext_alloc _ (Ext.refl _)) | exact Ext_drew (Ext_alloc _ (Ext_alloc _ (Ext.refl _))))) HB2.out ?_; intro v4 w4 ho4 he4 hv4 hg4; rw [List.nil_append] at ho4; have e14 := ey.trans he4; obtain ⟨A4, c4, hvv, r4⟩ := OwnL.rd ho4 HDL.out; subst hvv; (try (have hbz := HBZ.out _ hg4; have z0 : _ = some (Value.string ⟨#[]⟩) := hbz.cell 0; have z1 : _ = some (Value.int .i64 0) := hbz.cell 1; have z2 : _ = some (Value.slice none 0 0) := hbz.cell 2; have y0 := hbz.free 0; have y1 := hbz.free 1; have y2 := hbz.free 2)))
      | (refine step_appG rfl (.tmp 14) (.tmp 16) _ rfl E_u8 (by omega) W2 _ vu8 (fun _ => rfl) _ rfl _ _ _ rfl [] r.l (OwnL.ext HO'.out (by first | exact Ext_drew (Ext.refl _) | exact Ext_drew (Ext_alloc _ (Ext.refl _)))) (by first | exact Ext_drew (Ext_alloc _ (Ext.refl _)) | exact Ext_drew (Ext_alloc _ (Ext_alloc _ (Ext.refl _)))) rfl ((HD.out.ext (ea.trans ey)).src (by first | exact Ext_drew (Ext_alloc _ (Ext.refl _)) | exact Ext_drew (Ext_alloc _ (Ext_alloc _ (Ext.refl _))))) HB2.out ?_; intro v4 w4 ho4 he4 hv4 hg4; rw [List.nil_append] at ho4; have e14 := ey.trans he4; obtain ⟨A4, c4, hvv, r4⟩ := OwnL.rd ho4 HDL.out; subst hvv; (try (have hbz := HBZ'.out _ hg4; have z0 : _ = some (Value.string ⟨#[]⟩) := hbz.cell 0; have z1 : _ = some (Value.int .i64 0) := hbz.cell 1; have z2 : _ = some (Value.slice none 0 0) := hbz.cell 2; have y0 := hbz.free 0; have y1 := hbz.free 1; have y2 := hbz.free 2))))
    all_goals
      go_wp2_with fail
      go_meet
    · exact ⟨_, _, _, rfl, Box.new w4 _ _, OwnL.ext ho4 (Ext_alloc _ (Ext.refl _)), he4.size, Ext_alloc _ he4⟩
    · exact ⟨_, _, _, rfl, file_laid hbz ho4 (own_nb hv4 (by omega) (by simp; omega)) (by omega) he4⟩
    · exact ⟨_, _, _, rfl, file_laid hbz ho4 (own_nb hv4 (by omega) (by simp; omega)) (by omega) he4⟩
  case rest =>
    obtain ⟨g, A4, c4, rfl, hb4, ho4, hg4, he4⟩ := hcut
    clear SX HBZ HBZ' HO HO' HB2 HD hd
    have hv0 : Hid (Own 102 3 W1 wc (.slice (some ⟨w.heap.size + 1, 0, none⟩) 0 0) 0 []) := Own.ext HV.out he4
    have K0 : Hid (Keep W1 W2 wc g r (.slice A4 r.l.length c4) (.slice (some ⟨w.heap.size + 1, 0, none⟩) 0 0) []) :=
      ⟨hv0.out, hb4, ho4, fun hh => by have : some (w.heap.size + 1) = some g := hh; injection this; omega, fun b hb hh => by have h1 : some (w.heap.size + 1) = some b := hb; injection h1 with h1; have := (World.ownsRow.lt ho4 b hh).1; omega, ey.trans he4⟩
    have HKN := Lib.hid (fun (n : Nat) (h : n ≤ 1048576) => (show (n + 1) * 48 ≤ 140737488355328 ∧ n + 1 ≤ maxLen from ⟨by omega, by simp only [maxLen]; omega⟩))
    have HF := Lib.hid (fun k h => keepP_take (r := r) (fd := .slice A4 r.l.length c4) (ps := ps) (k := k) h)
    have HFD := Lib.hid (fun k h => doneF_take (r := r) (ps := ps) (k := k) h)
    clear ey HW1 HW2 HV hv0 hb4 ho4 he4 hg4
    go_wp2
    go_loopw [5, 7, 8] (fun t d i wr => ∃ (k : Nat) (v : Value) (qs : List (DFile × Value)), k ≤ ps.length ∧ qs.length ≤ k ∧ i = .int .i64 k ∧ t = v ∧ d = .bool (doneF r ps k) ∧ Hid (qs = (ps.take k).filterMap (keepP r (.slice A4 r.l.length c4))) ∧ Hid (Keep W1 W2 wr g r (.slice A4 r.l.length c4) v qs)) (fun _ _ i _ => ps.length - (intOf i).toNat)
    case atStart => exact ⟨0, _, [], by omega, by simp, rfl, rfl, (by unfold doneF anyF; simp), rfl, K0⟩
    case round =>
      clear K0
      obtain ⟨k, v, qs, hk, hql, rfl, rfl, rfl, hqs, hK⟩ := hrel
      by_cases hlt : k < ps.length
      · have HQ1 := Lib.hid (HF.out k hlt); have HD1 := Lib.hid (HFD.out k hlt)
        clear HF HFD
        obtain ⟨b, rfl, hb, hc⟩ := h.2.2.2 (by omega)
        obtain ⟨Aq, cq, hvq, rq⟩ := h.2.2.1 ps[k] (List.getElem_mem hlt)
        have e0 := ea.trans hK.out.ext
        have hck := fun w' (e : Ext wr w') => hc w' (e0.trans e) k hlt
        rw [hvq] at hck
        have hk0 := fun w' e => (hck w' e).1; have hk1 := fun w' e => (hck w' e).2.1; have hk2 := fun w' e => (hck w' e).2.2
        replace B0 := fun w' (e : Ext wr w') => B0 w' (hK.out.ext.trans e)
        have hn1 := (HKN.out qs.length (by omega)).1; have hn2 := (HKN.out qs.length (by omega)).2
        have HB1 := Lib.hid hn1; have HB2 := Lib.hid hn2
        clear hck hc hn1 hn2
        generalize ps[k] = p at *
        obtain ⟨⟨nm, ver, l⟩, vq⟩ := p
        dsimp only at hvq rq hk0 hk1 hk2
        subst hvq
        have hw0 := hk0 wr (Ext.refl wr)
        have hw4 := B0 wr (Ext.refl wr) 1
        cases hs : (nm.toList == r.nm.toList)
        · have hs2' : (nm.toList != r.nm.toList) = true := by unfold bne; rw [hs]; rfl
          have HQ : Hid ((ps.take (k + 1)).filterMap (keepP r (.slice A4 r.l.length c4)) = qs ++ [(⟨nm, ver, l⟩, .slice Aq l.length cq)]) := by
            show _ = _; rw [HQ1.out, ← hqs.out]; unfold keepP; rw [if_neg (by simp only [hs]; decide)]; rfl
          have HD : Hid (doneF r ps (k + 1) = doneF r ps k) := by show _ = _; rw [HD1.out, hs]; simp
          clear HQ1 HD1 hqs
          go_wp2_with fail
          refine wp_region_quiet_below (by kernel_rfl) (by kernel_rfl) ?_
          repeat (go_big_quiet_step (fail))
          refine wpQuiet_nil ?_
          rintro w5 ⟨⟨nq, osq⟩, hq⟩
          have ew5 := ext_of_q hq
          clear hq nq osq
          have hK5 := Lib.hid (hK.out.to ew5)
          go_wp2_with (first
            | (at_builtin; go_loud (refine wpList_appB rfl (.tmp 34) (.tmp 39) _ rfl E_file W1 w5 u5 qs.length (qs.flatMap fcells) rfl hK5.out.row hK5.out.ext (fcells (⟨nm, ver, l⟩, .slice Aq l.length cq)) _ rfl 1 _ _ rfl (by simp) rfl (by intro u hu; simp [fcells] at hu; rcases hu with rfl | rfl | rfl <;> rfl) HB2.out HB1.out ?_; intro v6 w6 ho6 he6 hb6 hg6)))
          have hK6 := Lib.hid (hK5.out.app (q := (⟨nm, ver, l⟩, .slice Aq l.length cq)) ho6 he6 hb6 hg6)
          clear hK5 ho6 hb6 hg6
          go_wp2
          go_roundw
          case rel => exact ⟨k + 1, v6, qs ++ [(⟨nm, ver, l⟩, .slice Aq l.length cq)], by omega, by simp; omega, by go_num, rfl, by rw [HD.out], Lib.hid HQ.out.symm, hK6⟩
          case measure => simp [intOf]; omega
        · have hs2' : (nm.toList != r.nm.toList) = false := by unfold bne; rw [hs]; rfl
          have hw0' := B0 wr (Ext.refl wr) 0
          cases hkk : (r.k == 1)
          · have HQ : Hid ((ps.take (k + 1)).filterMap (keepP r (.slice A4 r.l.length c4)) = qs) := by
              show _ = _; rw [HQ1.out, ← hqs.out]; unfold keepP; rw [if_pos (by simp only [hs]), if_neg (by simp only [hkk]; decide)]; simp
            have HD : Hid (doneF r ps (k + 1) = doneF r ps k) := by show _ = _; rw [HD1.out, hkk]; simp
            clear HQ1 HD1 hqs
            go_wp2_with fail
            refine wp_region_quiet_below (by kernel_rfl) (by kernel_rfl) ?_
            repeat (go_big_quiet_step (fail))
            refine wpQuiet_nil ?_
            rintro w5 ⟨⟨nq, osq⟩, hq⟩
            have ew5 := ext_of_q hq
            clear hq nq osq
            have hK5 := Lib.hid (hK.out.to ew5)
            have e5 := B0 w5 ew5 0
            go_wp2
            go_roundw
            case rel => exact ⟨k + 1, u5, qs, by omega, by omega, by go_num, rfl, by rw [HD.out], Lib.hid HQ.out.symm, hK5⟩
            case measure => simp [intOf]; omega
          · have HQ : Hid ((ps.take (k + 1)).filterMap (keepP r (.slice A4 r.l.length c4)) = qs ++ [(r.file, .slice A4 r.l.length c4)]) := by
              show _ = _; rw [HQ1.out, ← hqs.out]; unfold keepP; rw [if_pos (by simp only [hs]), if_pos (by simp only [hkk])]; rfl
            have HD : Hid (doneF r ps (k + 1) = true) := by show _ = _; rw [HD1.out, hkk, hs]; simp
            clear HQ1 HD1 hqs
            go_wp2_with fail
            refine wp_region_quiet_below (by kernel_rfl) (by kernel_rfl) ?_
            repeat (go_big_quiet_step (fail))
            refine wpQuiet_nil ?_
            rintro w5 ⟨⟨nq, osq⟩, hq⟩
            have ew5 := ext_of_q hq
            clear hq nq osq
            have hK5 := Lib.hid (hK.out.to ew5)
            have e5 := B0 w5 ew5 0
            have c0 : _ = some (Value.string r.nm) := hK5.out.box.cell 0; have c1 : _ = some (Value.int .i64 r.ver) := hK5.out.box.cell 1; have c2 : _ = some (Value.slice A4 r.l.length c4) := hK5.out.box.cell 2
            go_wp2_with (first
              | (at_builtin; refine wpList_appB rfl (.tmp 45) (.tmp 47) _ rfl E_file W1 w5 u5 qs.length (qs.flatMap fcells) rfl hK5.out.row hK5.out.ext (fcells (r.file, .slice A4 r.l.length c4)) _ rfl 1 _ _ rfl (by simp) rfl (by intro u hu; simp [fcells] at hu; rcases hu with rfl | rfl | rfl <;> rfl) HB2.out HB1.out ?_; intro v6 w6 ho6 he6 hb6 hg6))
            have hK6 := Lib.hid (hK5.out.app (q := (r.file, .slice A4 r.l.length c4)) ho6 he6 hb6 hg6)
            clear hK5 ho6 hb6 hg6
            go_wp2
            go_roundw
            case rel => exact ⟨k + 1, v6, qs ++ [(r.file, .slice A4 r.l.length c4)], by omega, by simp; omega, by go_num, rfl, by rw [HD.out], Lib.hid HQ.out.symm, hK6⟩
            case measure => simp [intOf]; omega
      · obtain rfl : k = ps.length := by omega
        have hqs := hqs.out
        rw [List.take_length] at hqs
        have hmem : Hid (∀ q ∈ qs, q ∈ ps ∨ q = (r.file, .slice A4 r.l.length c4)) := fun q hq => by rw [hqs] at hq; exact keepP_mem hq
        have hfst : Hid (qs.map Prod.fst = (ps.map Prod.fst).filterMap (keepF r)) := by show _ = _; rw [hqs]; exact keepP_fst r _ ps
        have e0 := ea.trans hK.out.ext
        have hp := Lib.hid h.2.2.1
        have HB1 := Lib.hid (HKN.out qs.length (by omega)).1; have HB2 := Lib.hid (HKN.out qs.length (by omega)).2
        have hw0' := B0 wr hK.out.ext 0
        replace B0 := fun w' (e : Ext wr w') => B0 w' (hK.out.ext.trans e)
        have hde : doneF r ps ps.length = ((r.k == 1) && anyF r (ps.map Prod.fst)) := by unfold doneF; rw [List.take_length]
        rw [hde]
        clear hqs hde HF HFD h
        cases hkk : (r.k == 1)
        · have HA : Hid (applyF (ps.map Prod.fst) r = qs.map Prod.fst) := by show _ = _; unfold applyF; rw [hkk, hfst.out]; simp
          go_wp2
          obtain ⟨A6, c6, hv6, r6, n6⟩ := hK.out.rd (by omega) hdl hp.out e0 ea hmem.out
          subst hv6
          go_ret
          exact ⟨A6, c6, qs, rfl, r6, n6, HA.out.symm, e0⟩
        · cases hany : anyF r (ps.map Prod.fst)
          · have HA : Hid (applyF (ps.map Prod.fst) r = (qs ++ [(r.file, (Value.slice A4 r.l.length c4))]).map Prod.fst) := by show _ = _; unfold applyF; rw [hkk, hany, List.map_append, hfst.out]; simp
            have hmem2 : Hid (∀ q ∈ qs ++ [(r.file, .slice A4 r.l.length c4)], q ∈ ps ∨ q = (r.file, .slice A4 r.l.length c4)) := fun q hq => by
              rcases List.mem_append.1 hq with hq | hq
              · exact hmem.out q hq
              · right; simpa using hq
            have c0 : _ = some (Value.string r.nm) := hK.out.box.cell 0; have c1 : _ = some (Value.int .i64 r.ver) := hK.out.box.cell 1; have c2 : _ = some (Value.slice A4 r.l.length c4) := hK.out.box.cell 2
            clear hany
            go_wp2_with (first
              | (at_builtin; refine wpList_appB rfl (.tmp 56) (.tmp 58) _ rfl E_file W1 wr u5 qs.length (qs.flatMap fcells) rfl hK.out.row hK.out.ext (fcells (r.file, .slice A4 r.l.length c4)) _ rfl 1 _ _ rfl (by simp) rfl (by intro u hu; simp [fcells] at hu; rcases hu with rfl | rfl | rfl <;> rfl) HB2.out HB1.out ?_; intro v6 w6 ho6 he6 hb6 hg6))
            have hK6 := Lib.hid (hK.out.app (q := (r.file, .slice A4 r.l.length c4)) ho6 he6 hb6 hg6)
            have e6 := ea.trans he6
            obtain ⟨A6, c6, hv6, r6, n6⟩ := hK6.out.rd (by simp; omega) hdl hp.out e6 ea hmem2.out
            subst hv6
            clear hK6 ho6 hb6 hg6
            go_wp2
            go_ret
            exact ⟨A6, c6, _, rfl, r6, n6, HA.out.symm, e6⟩
          · have HA : Hid (applyF (ps.map Prod.fst) r = qs.map Prod.fst) := by show _ = _; unfold applyF; rw [hkk, hany, hfst.out]; simp
            go_wp2
            obtain ⟨A6, c6, hv6, r6, n6⟩ := hK.out.rd (by omega) hdl hp.out e0 ea hmem.out
            subst hv6
            go_ret
            exact ⟨A6, c6, qs, rfl, r6, n6, HA.out.symm, e0⟩
theorem recs_dl (b : List UInt8) (a : Nat) : ∀ r ∈ recs b a, r.l.length ≤ 400 := by
  have key : ∀ f a, ∀ r ∈ (readF f b a).1, r.l.length ≤ 400 := by
    intro f
    induction f with
    | zero => intro a r hr; simp [readF] at hr
    | succ f ih =>
      intro a r hr
      rw [readF] at hr
      cases hd : decN b a with
      | none => rw [hd] at hr; simp at hr
      | some x =>
        rw [hd] at hr
        simp only [List.mem_cons] at hr
        rcases hr with rfl | hr
        · have := validRec_facts (decN_some hd).2.1; omega
        · exact ih _ r hr
  exact key _ a
set_option maxRecDepth 100000 in
set_option maxHeartbeats 2000000 in
theorem sFiles35_c (A : Option Addr) (l : List UInt8) (c : Nat) (w : World) (h : Bs w A l c) (hL : l.length ≤ 1048576) :
    Calls Try.prog 85 #[.slice A l.length c] w fun e w' => ∃ A' c' fs, e = .returned (.slice A' fs.length c') ∧ RdF w' A' fs c' ∧ NewA w A' ∧ fs.map Prod.fst = filesOf (recs l 0) ∧ Ext w w' := by
  have hdl := recs_dl l 0
  have hcl : (recs l 0).length ≤ 1048576 := by have := recs_le (b := l) (a := 0) (by omega); omega
  have CR := Lib.hid (fun w h => sReadRecords_c A l c w h (by omega))
  generalize recs l 0 = R at *
  generalize stop l 0 = j at *
  have HDL := Lib.hid hdl; clear hdl
  have e0 := Ext_alloc (.cells #[] 102) (Ext.refl w)
  go_enter Try.func85, Try.ntmps85
  go_wp2_with fail
  refine (CR.out _ (h.ext e0)).mono ?_; rintro _ w1 ⟨v1, rs, rfl, hrs, ho1, he1⟩
  have hrl : rs.length = R.length := by rw [← hrs, List.length_map]
  have hrd : ∀ p ∈ rs, p.1.l.length ≤ 400 := fun p hp => HDL.out p.1 (by rw [← hrs]; exact List.mem_map_of_mem hp)
  obtain ⟨A1, c1, hv1, r1⟩ := ho1.rd (by omega) (fun p hp => by have := hrd p hp; omega)
  subst hv1
  have HRS := Lib.hid hrs; have HRD := Lib.hid hrd
  have e1 := e0.trans he1
  clear hrs hrd ho1 he1 CR HDL
  have R0 : RdF w1 (some ⟨w.heap.size, 0, none⟩) [] 0 := ⟨by simp, by simp, by simp, fun hp => by simp at hp⟩
  go_wp2
  go_loopw [3, 6] (fun t i wr => ∃ (k : Nat) (Af : Option Addr) (ps : List (DFile × Value)) (cf : Nat), k ≤ rs.length ∧ i = .int .i64 k ∧ t = .slice Af ps.length cf ∧ RdF wr Af ps cf ∧ NewA w Af ∧ Hid (ps.map Prod.fst = filesOf ((rs.map Prod.fst).take k)) ∧ Ext w1 wr) (fun _ i _ => rs.length - (intOf i).toNat)
  case atStart => exact ⟨0, _, [], 0, by omega, rfl, rfl, R0, (fun b off hA => by injection hA with hA; injection hA with hA; omega), rfl, Ext.refl _⟩
  case round =>
    clear R0
    obtain ⟨k, Af, ps, cf, hk, rfl, rfl, rf, nf, hps, he⟩ := hrel
    have hpl : ps.length ≤ k := by
      have h1 := congrArg List.length hps.out
      have h2 := filesOf_len ((rs.map Prod.fst).take k)
      rw [List.length_map] at h1
      rw [List.length_take, List.length_map] at h2
      omega
    by_cases hlt : k < rs.length
    · obtain ⟨b, rfl, hb, hc⟩ := r1.2.2.2 (by omega)
      obtain ⟨Ad, cd, hvd, rd⟩ := r1.2.2.1 rs[k] (List.getElem_mem hlt)
      have hck := fun w' (e : Ext wr w') => hc w' (he.trans e) k hlt
      rw [hvd] at hck
      have hk0 := fun w' e => (hck w' e).1; have hk1 := fun w' e => (hck w' e).2.1; have hk2 := fun w' e => (hck w' e).2.2.1; have hk3 := fun w' e => (hck w' e).2.2.2
      have hdk := HRD.out rs[k] (List.getElem_mem hlt)
      have HT : Hid (filesOf ((rs.map Prod.fst).take (k + 1)) = applyF (ps.map Prod.fst) rs[k].1) := by
        show _ = _
        have h1 : k < (rs.map Prod.fst).length := by rw [List.length_map]; exact hlt
        rw [List.take_succ_eq_append_getElem h1, filesOf_snoc, ← hps.out]
        simp
      clear hck hc hps
      generalize rs[k] = p at *
      obtain ⟨r, vr⟩ := p
      dsimp only at hk0 hk1 hk2 hk3 rd hdk hvd
      subst hvd
      have CP := Lib.hid (fun w h h' => sApply_c Af ps cf r Ad cd w h h' hdk (by omega))
      unfold vrec at CP
      go_wp2_with fail
      refine (CP.out _ rf (rd.ext he)).mono ?_; rintro _ w2 ⟨A2, c2, qs, rfl, r2, n2, hq2, he2⟩
      have HQ : Hid (qs.map Prod.fst = filesOf ((rs.map Prod.fst).take (k + 1))) := by show _ = _; rw [HT.out]; exact hq2
      clear hq2 HT
      go_wp2
      go_roundw
      case rel => exact ⟨k + 1, A2, qs, c2, by omega, by go_num, rfl, r2, (fun b off hA => Nat.le_trans (e1.trans he).size (n2 b off hA)), HQ, he.trans he2⟩
      case measure => simp [intOf]; omega
    · obtain rfl : k = rs.length := by omega
      have HQ : Hid (ps.map Prod.fst = filesOf R) := by
        show _ = _
        rw [hps.out, List.take_of_length_le (by rw [List.length_map]; omega), HRS.out]
      clear hps
      go_wp2
      go_ret
      exact ⟨Af, cf, ps, rfl, rf, nf, HQ.out, e1.trans he⟩
end Go.Proofs.Ytlaejcacembjiaa
