/- Draws of descriptions: l4Any (one change, or none). (Printed by gen/gx25.py.) -/
import Derived.Test.YtpmcofmdjckijaaGreatDoorZEx3
import Derived.IntWalk
import Derived.Deep.DeepCutAuto
import Derived.Deep.CutBlock
import Derived.Deep.RegionHeld3
set_option linter.unusedVariables false
set_option linter.unusedSimpArgs false
set_option maxRecDepth 100000
set_option maxHeartbeats 16000000
namespace Go.Proofs.YtpmcofmdjckijaaGreatDoor
open Go.RowKit Go.Sort
theorem l1IntBox_c (ns : List Int) (hns : 0 < ns.length) (hns2 : ns.length ≤ 256) (n : Nat) (hn : n = ns.length) (cs : Array Value) (hcs : cs = (ns.map vint).toArray) (wb w : World) (p : Nat) (A : Option Addr) (l : List UInt8) (c : Nat) (hA : Bs wb A l c) (b : Nat) (hC : Cur wb w p A l c) (hb : Box w b cs 3) :
 Calls Tryz.prog 45 #[.pointer (some ⟨p, 0, none⟩), .slice (some ⟨b, 0, none⟩) n n] w fun e w' => ∃ x ∈ ns, e = .returned (.int .i64 x) ∧ Cur wb w' p A l c ∧ w.grownBy w' (some p) := by
 subst hn; subst hcs
 have hbp : p ≠ b := by
  rintro rfl
  obtain ⟨_, _, i, x, _, h4⟩ := hC
  have h5 : w.heap[p]? = _ := hb
  rw [h5] at h4
  injection h4 with h4
  injection h4 with _ h7
  exact absurd h7 (by decide)
 refine (l1Int_c (some ⟨b, 0, none⟩) ns ns.length hns hns2 wb _ p A l c hA hC ?_).mono ?_
 ·intro w' hg i hi
  refine ⟨b, 0, rfl, ?_⟩
  rw [(hb.moved hg (some_ne hbp)).cell (0 + i), Nat.zero_add]
  simp [vint, hi]
 ·rintro e w' ⟨x, hx, he, hC1, hg⟩
  exact ⟨x, hx, he, hC1, hg⟩
theorem DS.put' {wb w wr : World} {p : Nat} {A : Option Addr} {l : List UInt8} {c g b n cap : Nat} {ps : List RV} {R : Nat} (h : DS wb w wr p A l c g (.slice (some ⟨b, 0, none⟩) n cap) ps R) (k j : Nat) (hk : k < ps.length) (hj : j < 4) {q : RV} (hq : ps[k] = q) (u : Value) (p' : RV) (hc : p'.cells = q.cells.set j u) (hv : p'.vals = q.vals)
 (hr : p'.r.bytes = q.r.bytes ∧ p'.r.names = q.r.names ∧ p'.r.tags = q.r.tags ∧ p'.r.kids = q.r.kids) :
 (wr.cell? ⟨b, k * 8 + j, none⟩ = q.cells[j]? ∧ wr.frozen? ⟨b, k * 8 + j, none⟩ = false) ∧ DS wb w (wr.setCell ⟨b, k * 8 + j, none⟩ u) p A l c g (.slice (some ⟨b, 0, none⟩) n cap) (ps.set k p') R := by
 subst hq; exact h.put k j hk hj u p' hc hv hr
theorem DS.cellr {wb w wr : World} {p : Nat} {A : Option Addr} {l : List UInt8} {c g b n cap : Nat} {ps : List RV} {R : Nat} (h : DS wb w wr p A l c g (.slice (some ⟨b, 0, none⟩) n cap) ps R) (k j : Nat) (hk : k < ps.length) (hj : j < 8) {q : RV} (hq : ps[k] = q) : wr.cell? ⟨b, k * 8 + j, none⟩ = q.cells[j]? := by
 subst hq
 have hn : n = ps.length := by obtain ⟨_, _, hh⟩ := h.own.shape; injection hh
 subst hn
 have h0 := h.own.row.cellAt (k * 8 + j) (by omega)
 rw [h0, cells_get ps k j hk hj]
theorem DS.rule {wb w wr : World} {p : Nat} {A : Option Addr} {l : List UInt8} {c g : Nat} {v : Value} {ps : List RV} {R : Nat} (h : DS wb w wr p A l c g v ps R) (k : Nat) (hk : k < ps.length) {q : RV} (hq : ps[k] = q) : RuleOwn wb wr q := hq ▸ h.own.each _ (List.getElem_mem hk)
theorem Box.newd' (w : World) (cs : Array Value) (T : TypeId) (n : Nat) (hn : n = w.heap.size) : Box (w.alloc (.cells cs T)).drew n cs T := by subst hn; exact (Box.new w cs T).ext (Ext_drew (Ext.refl _))
theorem Box.new' (w : World) (cs : Array Value) (T : TypeId) (n : Nat) (hn : n = w.heap.size) : Box (w.alloc (.cells cs T)) n cs T := by subst hn; exact Box.new w cs T
theorem DS.app_b' {wb w W w2 : World} {p : Nat} {A : Option Addr} {l : List UInt8} {c g b n cap : Nat} {ps : List RV} {R : Nat} (h : DS wb w W p A l c g (.slice (some ⟨b, 0, none⟩) n cap) ps R) (k : Nat) (hk : k < ps.length) {q : RV} (hq : ps[k] = q) {v' : Value} {xs : List UInt8} (ho : OwnL vu8 5 wb w2 v' xs) (he : Ext wb w2)
 (hb : v'.ownBlock = q.vb.ownBlock ∨ v'.ownBlock = some W.heap.size) (hg : W.grownBy w2 q.vb.ownBlock) :
 (w2.cell? ⟨b, k * 8 + 4, none⟩ = some q.vb ∧ w2.frozen? ⟨b, k * 8 + 4, none⟩ = false ∧ w2.cell? ⟨g, 0, none⟩ = some (.slice (some ⟨b, 0, none⟩) n cap)) ∧ DS wb w (w2.setCell ⟨b, k * 8 + 4, none⟩ v') p A l c g (.slice (some ⟨b, 0, none⟩) n cap) (ps.set k ⟨{ q.r with bytes := xs }, v', q.vn, q.vt, q.vk⟩) R := by
 subst hq; exact h.app_b k hk ho he hb hg
theorem DS.app_n' {wb w W w2 : World} {p : Nat} {A : Option Addr} {l : List UInt8} {c g b n cap : Nat} {ps : List RV} {R : Nat} (h : DS wb w W p A l c g (.slice (some ⟨b, 0, none⟩) n cap) ps R) (k : Nat) (hk : k < ps.length) {q : RV} (hq : ps[k] = q) {v' : Value} {xs : List ByteArray} (ho : OwnL vstr 9 wb w2 v' xs) (he : Ext wb w2)
 (hb : v'.ownBlock = q.vn.ownBlock ∨ v'.ownBlock = some W.heap.size) (hg : W.grownBy w2 q.vn.ownBlock) :
 (w2.cell? ⟨b, k * 8 + 5, none⟩ = some q.vn ∧ w2.frozen? ⟨b, k * 8 + 5, none⟩ = false ∧ w2.cell? ⟨g, 0, none⟩ = some (.slice (some ⟨b, 0, none⟩) n cap)) ∧ DS wb w (w2.setCell ⟨b, k * 8 + 5, none⟩ v') p A l c g (.slice (some ⟨b, 0, none⟩) n cap) (ps.set k ⟨{ q.r with names := xs }, q.vb, v', q.vt, q.vk⟩) R := by
 subst hq; exact h.app_n k hk ho he hb hg
theorem DS.app_t' {wb w W w2 : World} {p : Nat} {A : Option Addr} {l : List UInt8} {c g b n cap : Nat} {ps : List RV} {R : Nat} (h : DS wb w W p A l c g (.slice (some ⟨b, 0, none⟩) n cap) ps R) (k : Nat) (hk : k < ps.length) {q : RV} (hq : ps[k] = q) {v' : Value} {xs : List Int} (ho : OwnL vint 3 wb w2 v' xs) (he : Ext wb w2)
 (hb : v'.ownBlock = q.vt.ownBlock ∨ v'.ownBlock = some W.heap.size) (hg : W.grownBy w2 q.vt.ownBlock) :
 (w2.cell? ⟨b, k * 8 + 6, none⟩ = some q.vt ∧ w2.frozen? ⟨b, k * 8 + 6, none⟩ = false ∧ w2.cell? ⟨g, 0, none⟩ = some (.slice (some ⟨b, 0, none⟩) n cap)) ∧ DS wb w (w2.setCell ⟨b, k * 8 + 6, none⟩ v') p A l c g (.slice (some ⟨b, 0, none⟩) n cap) (ps.set k ⟨{ q.r with tags := xs }, q.vb, q.vn, v', q.vk⟩) R := by
 subst hq; exact h.app_t k hk ho he hb hg
theorem DS.app_k' {wb w W w2 : World} {p : Nat} {A : Option Addr} {l : List UInt8} {c g b n cap : Nat} {ps : List RV} {R : Nat} (h : DS wb w W p A l c g (.slice (some ⟨b, 0, none⟩) n cap) ps R) (k : Nat) (hk : k < ps.length) {q : RV} (hq : ps[k] = q) {v' : Value} {xs : List Int} (ho : OwnL vint 3 wb w2 v' xs) (he : Ext wb w2)
 (hb : v'.ownBlock = q.vk.ownBlock ∨ v'.ownBlock = some W.heap.size) (hg : W.grownBy w2 q.vk.ownBlock) :
 (w2.cell? ⟨b, k * 8 + 7, none⟩ = some q.vk ∧ w2.frozen? ⟨b, k * 8 + 7, none⟩ = false ∧ w2.cell? ⟨g, 0, none⟩ = some (.slice (some ⟨b, 0, none⟩) n cap)) ∧ DS wb w (w2.setCell ⟨b, k * 8 + 7, none⟩ v') p A l c g (.slice (some ⟨b, 0, none⟩) n cap) (ps.set k ⟨{ q.r with kids := xs }, q.vb, q.vn, q.vt, v'⟩) R := by
 subst hq; exact h.app_k k hk ho he hb hg
structure AnyV (wb w w' : World) (v : Value) (ps : List RV) : Prop where
 small : SmD (rulesOf ps)
 own : OwnD wb w' v ps
 new : ∀ u ∈ v :: ps.flatMap RV.vals, ∀ b, u.ownBlock = some b → w.heap.size ≤ b
theorem SmD_set {ps : List RV} {k : Nat} {p' : RV} (h : SmD (rulesOf ps)) (hp : SmR p'.r) : SmD (rulesOf (ps.set k p')) := by
 refine ⟨by have := h.1; simpa [rulesOf] using this, fun r hr => ?_⟩
 obtain ⟨q, hq, rfl⟩ := List.mem_map.1 hr
 rcases List.mem_or_eq_of_mem_set hq with h1 | rfl
 ·exact h.2 _ (List.mem_map_of_mem h1)
 ·exact hp
theorem MadeD.sm {ps : List RV} (h : MadeD (rulesOf ps)) (hs : SmallD (rulesOf ps)) : SmD (rulesOf ps) := ⟨hs.1, fun r hr => (hs.2 r hr).sm (by
 obtain ⟨i, hi, rfl⟩ := List.getElem_of_mem hr
 have := (h i hi).ok
 unfold kindOk at this
 by_cases h1 : (rulesOf ps)[i].kind = 1; · omega
 by_cases h2 : (rulesOf ps)[i].kind = 2; · omega
 by_cases h3 : (rulesOf ps)[i].kind = 3; · omega
 by_cases h4 : (rulesOf ps)[i].kind = 4; · omega
 by_cases h5 : (rulesOf ps)[i].kind = 5; · omega
 by_cases h6 : (rulesOf ps)[i].kind = 6; · omega
 by_cases h7 : (rulesOf ps)[i].kind = 7; · omega
 by_cases h8 : (rulesOf ps)[i].kind = 8; · omega
 by_cases h9 : (rulesOf ps)[i].kind = 9; · omega
 by_cases h10 : (rulesOf ps)[i].kind = 10; · omega
 simp [h1, h2, h3, h4, h5, h6, h7, h8, h9, h10] at this)⟩
theorem DS.finish {wb w wr : World} {p : Nat} {A : Option Addr} {l : List UInt8} {c g : Nat} {v : Value} {ps : List RV} (h : DS wb w wr p A l c g v ps w.heap.size) (hbw : wb.heap.size ≤ w.heap.size) :
 OwnD wb (wr.setCell ⟨w.heap.size, 0, none⟩ v) v ps ∧ (∀ u ∈ v :: ps.flatMap RV.vals, ∀ b, u.ownBlock = some b → w.heap.size ≤ b) ∧ Cur wb (wr.setCell ⟨w.heap.size, 0, none⟩ v) p A l c ∧ w.grownBy (wr.setCell ⟨w.heap.size, 0, none⟩ v) (some p) :=
 ⟨h.own.keep (grown_set wr ⟨w.heap.size, 0, none⟩ _) (fun u hu b hb hh => by injection hh with hh; exact (h.new u hu b hb).2.2.2 hh.symm), fun u hu b hb => (h.new u hu b hb).1, h.cur.set (a := ⟨w.heap.size, 0, none⟩) (fun hh => h.pR hh.symm) hbw _, grown_new (a := ⟨w.heap.size, 0, none⟩) h.grow (Nat.le_refl _) _⟩
theorem l4Any_c (wb w : World) (p : Nat) (A : Option Addr) (l : List UInt8) (c : Nat) (hA : Bs wb A l c) (hC : Cur wb w p A l c) :
 Calls Tryz.prog 53 #[.pointer (some ⟨p, 0, none⟩)] w fun e w' => ∃ v ps, e = .returned (vdesc v) ∧ AnyV wb w w' v ps ∧ ps.length ≤ 6 ∧ Cur wb w' p A l c ∧ w.grownBy w' (some p) := by
 have hplt := hC.lt
 have hbw := hC.2.1.size
 have CBe := Lib.hid (fun n w h hn => l1Below_c n wb w p A l c hA h hn)
 have CD := Lib.hid (fun w h => l4Description_c wb w p A l c hA h)
 unfold vdesc at CD
 have e0 := Ext_alloc (.cells #[.slice none 0 0] 26) (Ext.refl w)
 have HR := Lib.hid (Box.new w #[.slice none 0 0] 26)
 go_enter Tryz.func53, Tryz.ntmps53
 go_wp2_with fail
 refine (CD.out _ (hC.ext e0)).mono ?_; rintro _ w1 ⟨v, ps, rfl, hV, hps6, hC1, hg1⟩
 have hp0 : 0 < ps.length := by obtain ⟨h, _⟩ := hV.first; simpa [rulesOf] using h
 obtain ⟨b, cap, hv⟩ : ∃ b cap, v = .slice (some ⟨b, 0, none⟩) ps.length cap := by
  rcases hV.own.row.2 with ⟨_, h0⟩ | ⟨g, cap, cur, hv, _⟩
  ·omega
  ·exact ⟨g, cap, hv⟩
 subst hv
 have G1 := (grown_ext e0 (some p)).trans hg1
 have x1 := Ext_alloc (.cells #[.slice (some ⟨b, 0, none⟩) ps.length cap] 26) (Ext.refl w1)
 have hR1 := HR.out.moved hg1 (some_ne (by omega))
 have hRl := hR1.lt
 have hpl := hC1.lt
 have S1 : Hid (DS wb w (w1.alloc (.cells #[.slice (some ⟨b, 0, none⟩) ps.length cap] 26)) p A l c w1.heap.size (.slice (some ⟨b, 0, none⟩) ps.length cap) ps w.heap.size) :=
  ⟨Box.new w1 _ _, hV.own.ext x1, fun u hu b hb => by
   have h1 := hV.new u hu b hb
   rw [World.size_alloc] at h1
   have h2 := (hV.own.block u hu b hb).2
   exact ⟨by omega, by omega, by omega, by omega⟩, hC1.ext x1, G1.trans (grown_ext x1 _), by omega, by have := hC1.2.1.size; omega, by omega, hR1.ext x1, by omega, by omega⟩
 have HSM := Lib.hid (hV.made.sm hV.small)
 have HSML := Lib.hid hV.small
 have cd0 : _ = some (Value.slice (some ⟨b, 0, none⟩) ps.length cap) := S1.out.box.cell 0
 clear hV hC1 hg1 G1 x1 hR1 HR e0 CD
 go_wp2_with fail
 refine (CBe.out ps.length _ S1.out.cur (by omega)).mono ?_; rintro _ w2 ⟨k, hk0, rfl, hC2, hg2⟩
 have hk : k < ps.length := by unfold below at hk0; rw [if_neg (by omega)] at hk0; omega
 have S2 := Lib.hid (S1.out.moved hC2 hg2)
 clear hk0 hC2 hg2 S1 cd0
 generalize w1.heap.size = g at *
 go_wp2_with fail
 refine (CBe.out 16 _ S2.out.cur (by omega)).mono ?_; rintro _ w3 ⟨y, hy, rfl, hC3, hg3⟩
 have S3 := Lib.hid (S2.out.moved hC3 hg3)
 clear hy hC3 hg3 S2
 have cd0 : _ = some (Value.slice (some ⟨b, 0, none⟩) ps.length cap) := S3.out.box.cell 0
 obtain ⟨q, hq⟩ : ∃ q, ps[k] = q := ⟨_, rfl⟩
 have hsr : SmR q.r := hq ▸ HSM.out.2 _ (List.mem_map_of_mem (List.getElem_mem hk))
 have hsl : SmallR q.r := hq ▸ HSML.out.2 _ (List.mem_map_of_mem (List.getElem_mem hk))
 have HRO := S3.out.rule k hk hq
 obtain ⟨r, vb, vn, vt, vk⟩ := q
 obtain ⟨Ab, cb, An, cn, At, ct, Ak, ck, hs1, hs2, hs3, hs4, _⟩ := HRO.rd hsr.short
 dsimp only at hs1 hs2 hs3 hs4 hsr hsl
 subst hs1; subst hs2; subst hs3; subst hs4
 have HQ := Lib.hid hq
 have HSR := Lib.hid hsr
 have HSL := Lib.hid hsl
 have b1 : (k : Int) < (ps.length : Int) := by omega
 have b0 : (0 : Int) ≤ (k : Int) := by omega
 have b2 : (0 : Int) < (ps.length : Int) := by omega
 have SX := Lib.hid (S3.out.ext (Ext_drew (Ext.refl w3)))
 clear hq hsr hsl HRO hRl hpl
 rcases (by omega : y = 0 ∨ y = 1 ∨ y = 2 ∨ y = 3 ∨ y = 4 ∨ y = 5 ∨ y = 6 ∨ y = 7 ∨ y = 8 ∨ 9 ≤ y) with rfl | rfl | rfl | rfl | rfl | rfl | rfl | rfl | rfl | hy9
 ·obtain ⟨n0, hn0⟩ : ∃ n0, ps[0].r.nm = n0 := ⟨_, rfl⟩
  have hc00 : w3.cell? ⟨b, 0, none⟩ = some (.string n0) := by
   have h1 := S3.out.cellr 0 0 hp0 (by omega) rfl
   rw [← hn0]
   simpa [RV.cells] using h1
  have HN0 : Hid (n0.size ≤ 60) := by show _ ≤ _; rw [← hn0]; exact (HSM.out.2 _ (List.mem_map_of_mem (List.getElem_mem hp0))).nm
  clear hn0
  have cl1 : _ = some (Value.slice (some ⟨b, 0, none⟩) ps.length cap) := (S3.out.ext (Ext_drew (Ext_alloc (.cells #[.string ⟨#[]⟩, .string ⟨#[65]⟩, .string n0, .string ⟨#[118, 101, 114, 121, 108, 111, 110, 103, 110, 97, 109, 101, 105, 110, 100, 101, 101, 100]⟩] 9) (Ext.refl w3)))).box.cell 0
  go_wp2_with fail
  go_region_law (first
   | (go_simp; go_at_call 41; refine (l1StrBox_c [⟨#[]⟩, ⟨#[65]⟩, n0, ⟨#[118, 101, 114, 121, 108, 111, 110, 103, 110, 97, 109, 101, 105, 110, 100, 101, 101, 100]⟩] (by simp) (by simp) 4 rfl #[.string ⟨#[]⟩, .string ⟨#[65]⟩, .string n0, .string ⟨#[118, 101, 114, 121, 108, 111, 110, 103, 110, 97, 109, 101, 105, 110, 100, 101, 101, 100]⟩] rfl wb _ p A l c hA _ ((S3.out.ext (Ext_drew (Ext_alloc (.cells #[.string ⟨#[]⟩, .string ⟨#[65]⟩, .string n0, .string ⟨#[118, 101, 114, 121, 108, 111, 110, 103, 110, 97, 109, 101, 105, 110, 100, 101, 101, 100]⟩] 9) (Ext.refl w3))))).cur (Box.newd' _ _ _ _ rfl)).mono ?_; rintro _ w5 ⟨x, hx, rfl, hC5, hg5⟩; have S5 := Lib.hid (DS.moved (S3.out.ext (Ext_drew (Ext_alloc (.cells #[.string ⟨#[]⟩, .string ⟨#[65]⟩, .string n0, .string ⟨#[118, 101, 114, 121, 108, 111, 110, 103, 110, 97, 109, 101, 105, 110, 100, 101, 101, 100]⟩] 9) (Ext.refl w3)))) hC5 hg5); have c5 : _ = some (Value.slice (some ⟨b, 0, none⟩) ps.length cap) := S5.out.box.cell 0; have HX := Lib.hid hx; clear hx; have PT := S5.out.put' k 0 hk (by omega) HQ.out (.string x) ⟨{ r with nm := x }, .slice Ab r.bytes.length cb, .slice An r.names.length cn, .slice At r.tags.length ct, .slice Ak r.kids.length ck⟩ rfl rfl ⟨rfl, rfl, rfl, rfl⟩; have z5 : w5.cell? ⟨b, k * 8, none⟩ = some (Value.string r.nm) := PT.1.1; have y5 : w5.frozen? ⟨b, k * 8, none⟩ = false := PT.1.2; have M7 : Hid (DS wb w (w5.setCell ⟨b, k * 8, none⟩ (.string x)) p A l c g (Value.slice (some ⟨b, 0, none⟩) ps.length cap) (ps.set k ⟨{ r with nm := x }, .slice Ab r.bytes.length cb, .slice An r.names.length cn, .slice At r.tags.length ct, .slice Ak r.kids.length ck⟩) w.heap.size) := PT.2; clear PT S5 hC5 hg5)
   | (go_simp; go_at_call 41; refine (l1StrBox_c [⟨#[]⟩, ⟨#[65]⟩, n0, ⟨#[118, 101, 114, 121, 108, 111, 110, 103, 110, 97, 109, 101, 105, 110, 100, 101, 101, 100]⟩] (by simp) (by simp) 4 rfl #[.string ⟨#[]⟩, .string ⟨#[65]⟩, .string n0, .string ⟨#[118, 101, 114, 121, 108, 111, 110, 103, 110, 97, 109, 101, 105, 110, 100, 101, 101, 100]⟩] rfl wb _ p A l c hA _ ((SX.out.ext (Ext_alloc (.cells #[.string ⟨#[]⟩, .string ⟨#[65]⟩, .string n0, .string ⟨#[118, 101, 114, 121, 108, 111, 110, 103, 110, 97, 109, 101, 105, 110, 100, 101, 101, 100]⟩] 9) (Ext.refl _)))).cur (Box.new' _ _ _ _ rfl)).mono ?_; rintro _ w5 ⟨x, hx, rfl, hC5, hg5⟩; have S5 := Lib.hid (DS.moved (SX.out.ext (Ext_alloc (.cells #[.string ⟨#[]⟩, .string ⟨#[65]⟩, .string n0, .string ⟨#[118, 101, 114, 121, 108, 111, 110, 103, 110, 97, 109, 101, 105, 110, 100, 101, 101, 100]⟩] 9) (Ext.refl _))) hC5 hg5); have c5 : _ = some (Value.slice (some ⟨b, 0, none⟩) ps.length cap) := S5.out.box.cell 0; have HX := Lib.hid hx; clear hx; have PT := S5.out.put' k 0 hk (by omega) HQ.out (.string x) ⟨{ r with nm := x }, .slice Ab r.bytes.length cb, .slice An r.names.length cn, .slice At r.tags.length ct, .slice Ak r.kids.length ck⟩ rfl rfl ⟨rfl, rfl, rfl, rfl⟩; have z5 : w5.cell? ⟨b, k * 8, none⟩ = some (Value.string r.nm) := PT.1.1; have y5 : w5.frozen? ⟨b, k * 8, none⟩ = false := PT.1.2; have M7 : Hid (DS wb w (w5.setCell ⟨b, k * 8, none⟩ (.string x)) p A l c g (Value.slice (some ⟨b, 0, none⟩) ps.length cap) (ps.set k ⟨{ r with nm := x }, .slice Ab r.bytes.length cb, .slice An r.names.length cn, .slice At r.tags.length ct, .slice Ak r.kids.length ck⟩) w.heap.size) := PT.2; clear PT S5 hC5 hg5))
  all_goals
   have cg : _ = some (Value.slice (some ⟨b, 0, none⟩) ps.length cap) := M7.out.box.cell 0
   have cr0 : _ = some (Value.slice none 0 0) := M7.out.res.cell 0
   have yr0 := M7.out.res.free 0
   have OUT := Lib.hid (DS.finish M7.out hbw)
   have z9 : (World.setCell (w5.setCell ⟨b, k * 8, none⟩ (.string x)) ⟨w.heap.size, 0, none⟩ (Value.slice (some ⟨b, 0, none⟩) ps.length cap)).cell? ⟨w.heap.size, 0, none⟩ = some (Value.slice (some ⟨b, 0, none⟩) ps.length cap) := World.cell?_setCell_same _ _ _ cr0
   have HSE := Lib.hid (SmD_set (k := k) (p' := ⟨{ r with nm := x }, .slice Ab r.bytes.length cb, .slice An r.names.length cn, .slice At r.tags.length ct, .slice Ak r.kids.length ck⟩) HSM.out (⟨by have h := HX.out; have := HN0.out; simp only [List.mem_cons, List.not_mem_nil, or_false] at h; (try dsimp only); rcases h with rfl | rfl | rfl | rfl <;> first | omega | decide, HSR.out.lens, HSR.out.nms, HSR.out.kind, HSR.out.ints⟩))
   clear M7
   go_wp2
   refine bodyPost_ret (v := vdesc (Value.slice (some ⟨b, 0, none⟩) ps.length cap)) (by simp [results, Tryz.results53, go_sem, z9, vdesc]) rfl ?_
   have HLN : Hid ((ps.set k (⟨{ r with nm := x }, .slice Ab r.bytes.length cb, .slice An r.names.length cn, .slice At r.tags.length ct, .slice Ak r.kids.length ck⟩)).length ≤ 6) := by show _ ≤ _; simp; omega
   first
    | exact ⟨_, _, rfl, ⟨HSE.out, OUT.out.1, OUT.out.2.1⟩, HLN.out, OUT.out.2.2.1, OUT.out.2.2.2⟩
    | exact ⟨_, rfl, _, ⟨HSE.out, OUT.out.1, OUT.out.2.1⟩, HLN.out, OUT.out.2.2.1, OUT.out.2.2.2⟩
 ·have HWx : Hid (∀ x : Nat, below 13 x → x < 13 ∧ IntKind.i64.wrap ((x : Int) - 1) = (x : Int) - 1) := fun x hx => by
   have : x < 13 := by unfold below at hx; rw [if_neg (by omega)] at hx; omega
   exact ⟨this, IntWalk.i64_in _ (by omega)⟩
  go_wp2_with fail
  go_region_law (first
   | (go_simp; go_at_call 30; refine (CBe.out 13 _ SX.out.cur (by omega)).mono ?_; rintro _ w5 ⟨x, hx, rfl, hC5, hg5⟩; have S5 := Lib.hid (DS.moved SX.out hC5 hg5); have c5 : _ = some (Value.slice (some ⟨b, 0, none⟩) ps.length cap) := S5.out.box.cell 0; have HX := Lib.hid (HWx.out x hx); have hw5 := HX.out.2; clear hx; have PT := S5.out.put' k 1 hk (by omega) HQ.out (.int .i64 ((x : Int) - 1)) ⟨{ r with kind := (x : Int) - 1 }, .slice Ab r.bytes.length cb, .slice An r.names.length cn, .slice At r.tags.length ct, .slice Ak r.kids.length ck⟩ rfl rfl ⟨rfl, rfl, rfl, rfl⟩; have z5 : w5.cell? ⟨b, k * 8 + 1, none⟩ = some (Value.int .i64 r.kind) := PT.1.1; have y5 : w5.frozen? ⟨b, k * 8 + 1, none⟩ = false := PT.1.2; have M7 : Hid (DS wb w (w5.setCell ⟨b, k * 8 + 1, none⟩ (.int .i64 ((x : Int) - 1))) p A l c g (Value.slice (some ⟨b, 0, none⟩) ps.length cap) (ps.set k ⟨{ r with kind := (x : Int) - 1 }, .slice Ab r.bytes.length cb, .slice An r.names.length cn, .slice At r.tags.length ct, .slice Ak r.kids.length ck⟩) w.heap.size) := PT.2; clear PT S5 hC5 hg5))
  all_goals
   clear hw5
   have cg : _ = some (Value.slice (some ⟨b, 0, none⟩) ps.length cap) := M7.out.box.cell 0
   have cr0 : _ = some (Value.slice none 0 0) := M7.out.res.cell 0
   have yr0 := M7.out.res.free 0
   have OUT := Lib.hid (DS.finish M7.out hbw)
   have z9 : (World.setCell (w5.setCell ⟨b, k * 8 + 1, none⟩ (.int .i64 ((x : Int) - 1))) ⟨w.heap.size, 0, none⟩ (Value.slice (some ⟨b, 0, none⟩) ps.length cap)).cell? ⟨w.heap.size, 0, none⟩ = some (Value.slice (some ⟨b, 0, none⟩) ps.length cap) := World.cell?_setCell_same _ _ _ cr0
   have HSE := Lib.hid (SmD_set (k := k) (p' := ⟨{ r with kind := (x : Int) - 1 }, .slice Ab r.bytes.length cb, .slice An r.names.length cn, .slice At r.tags.length ct, .slice Ak r.kids.length ck⟩) HSM.out (⟨HSR.out.nm, HSR.out.lens, HSR.out.nms, by have := HX.out.1; (try dsimp only); omega, HSR.out.ints⟩))
   clear M7
   go_wp2
   refine bodyPost_ret (v := vdesc (Value.slice (some ⟨b, 0, none⟩) ps.length cap)) (by simp [results, Tryz.results53, go_sem, z9, vdesc]) rfl ?_
   have HLN : Hid ((ps.set k (⟨{ r with kind := (x : Int) - 1 }, .slice Ab r.bytes.length cb, .slice An r.names.length cn, .slice At r.tags.length ct, .slice Ak r.kids.length ck⟩)).length ≤ 6) := by show _ ≤ _; simp; omega
   first
    | exact ⟨_, _, rfl, ⟨HSE.out, OUT.out.1, OUT.out.2.1⟩, HLN.out, OUT.out.2.2.1, OUT.out.2.2.2⟩
    | exact ⟨_, rfl, _, ⟨HSE.out, OUT.out.1, OUT.out.2.1⟩, HLN.out, OUT.out.2.2.1, OUT.out.2.2.2⟩
 ·have cl1 : _ = some (Value.slice (some ⟨b, 0, none⟩) ps.length cap) := (S3.out.ext (Ext_drew (Ext_alloc (.cells #[.int .i64 (-1), .int .i64 0, .int .i64 1, .int .i64 4, .int .i64 5, .int .i64 64, .int .i64 65] 3) (Ext.refl w3)))).box.cell 0
  go_wp2_with fail
  go_region_law (first
   | (go_simp; go_at_call 45; refine (l1IntBox_c [-1, 0, 1, 4, 5, 64, 65] (by simp) (by simp) 7 rfl #[.int .i64 (-1), .int .i64 0, .int .i64 1, .int .i64 4, .int .i64 5, .int .i64 64, .int .i64 65] rfl wb _ p A l c hA _ ((S3.out.ext (Ext_drew (Ext_alloc (.cells #[.int .i64 (-1), .int .i64 0, .int .i64 1, .int .i64 4, .int .i64 5, .int .i64 64, .int .i64 65] 3) (Ext.refl w3))))).cur (Box.newd' _ _ _ _ rfl)).mono ?_; rintro _ w5 ⟨x, hx, rfl, hC5, hg5⟩; have S5 := Lib.hid (DS.moved (S3.out.ext (Ext_drew (Ext_alloc (.cells #[.int .i64 (-1), .int .i64 0, .int .i64 1, .int .i64 4, .int .i64 5, .int .i64 64, .int .i64 65] 3) (Ext.refl w3)))) hC5 hg5); have c5 : _ = some (Value.slice (some ⟨b, 0, none⟩) ps.length cap) := S5.out.box.cell 0; have HX := Lib.hid hx; clear hx; have PT := S5.out.put' k 2 hk (by omega) HQ.out (.int .i64 x) ⟨{ r with size := x }, .slice Ab r.bytes.length cb, .slice An r.names.length cn, .slice At r.tags.length ct, .slice Ak r.kids.length ck⟩ rfl rfl ⟨rfl, rfl, rfl, rfl⟩; have z5 : w5.cell? ⟨b, k * 8 + 2, none⟩ = some (Value.int .i64 r.size) := PT.1.1; have y5 : w5.frozen? ⟨b, k * 8 + 2, none⟩ = false := PT.1.2; have M7 : Hid (DS wb w (w5.setCell ⟨b, k * 8 + 2, none⟩ (.int .i64 x)) p A l c g (Value.slice (some ⟨b, 0, none⟩) ps.length cap) (ps.set k ⟨{ r with size := x }, .slice Ab r.bytes.length cb, .slice An r.names.length cn, .slice At r.tags.length ct, .slice Ak r.kids.length ck⟩) w.heap.size) := PT.2; clear PT S5 hC5 hg5)
   | (go_simp; go_at_call 45; refine (l1IntBox_c [-1, 0, 1, 4, 5, 64, 65] (by simp) (by simp) 7 rfl #[.int .i64 (-1), .int .i64 0, .int .i64 1, .int .i64 4, .int .i64 5, .int .i64 64, .int .i64 65] rfl wb _ p A l c hA _ ((SX.out.ext (Ext_alloc (.cells #[.int .i64 (-1), .int .i64 0, .int .i64 1, .int .i64 4, .int .i64 5, .int .i64 64, .int .i64 65] 3) (Ext.refl _)))).cur (Box.new' _ _ _ _ rfl)).mono ?_; rintro _ w5 ⟨x, hx, rfl, hC5, hg5⟩; have S5 := Lib.hid (DS.moved (SX.out.ext (Ext_alloc (.cells #[.int .i64 (-1), .int .i64 0, .int .i64 1, .int .i64 4, .int .i64 5, .int .i64 64, .int .i64 65] 3) (Ext.refl _))) hC5 hg5); have c5 : _ = some (Value.slice (some ⟨b, 0, none⟩) ps.length cap) := S5.out.box.cell 0; have HX := Lib.hid hx; clear hx; have PT := S5.out.put' k 2 hk (by omega) HQ.out (.int .i64 x) ⟨{ r with size := x }, .slice Ab r.bytes.length cb, .slice An r.names.length cn, .slice At r.tags.length ct, .slice Ak r.kids.length ck⟩ rfl rfl ⟨rfl, rfl, rfl, rfl⟩; have z5 : w5.cell? ⟨b, k * 8 + 2, none⟩ = some (Value.int .i64 r.size) := PT.1.1; have y5 : w5.frozen? ⟨b, k * 8 + 2, none⟩ = false := PT.1.2; have M7 : Hid (DS wb w (w5.setCell ⟨b, k * 8 + 2, none⟩ (.int .i64 x)) p A l c g (Value.slice (some ⟨b, 0, none⟩) ps.length cap) (ps.set k ⟨{ r with size := x }, .slice Ab r.bytes.length cb, .slice An r.names.length cn, .slice At r.tags.length ct, .slice Ak r.kids.length ck⟩) w.heap.size) := PT.2; clear PT S5 hC5 hg5))
  all_goals
   have cg : _ = some (Value.slice (some ⟨b, 0, none⟩) ps.length cap) := M7.out.box.cell 0
   have cr0 : _ = some (Value.slice none 0 0) := M7.out.res.cell 0
   have yr0 := M7.out.res.free 0
   have OUT := Lib.hid (DS.finish M7.out hbw)
   have z9 : (World.setCell (w5.setCell ⟨b, k * 8 + 2, none⟩ (.int .i64 x)) ⟨w.heap.size, 0, none⟩ (Value.slice (some ⟨b, 0, none⟩) ps.length cap)).cell? ⟨w.heap.size, 0, none⟩ = some (Value.slice (some ⟨b, 0, none⟩) ps.length cap) := World.cell?_setCell_same _ _ _ cr0
   have HSE := Lib.hid (SmD_set (k := k) (p' := ⟨{ r with size := x }, .slice Ab r.bytes.length cb, .slice An r.names.length cn, .slice At r.tags.length ct, .slice Ak r.kids.length ck⟩) HSM.out (⟨HSR.out.nm, HSR.out.lens, HSR.out.nms, HSR.out.kind, ⟨by have h := HX.out; simp at h; (try dsimp only); omega, HSR.out.ints.2⟩⟩))
   clear M7
   go_wp2
   refine bodyPost_ret (v := vdesc (Value.slice (some ⟨b, 0, none⟩) ps.length cap)) (by simp [results, Tryz.results53, go_sem, z9, vdesc]) rfl ?_
   have HLN : Hid ((ps.set k (⟨{ r with size := x }, .slice Ab r.bytes.length cb, .slice An r.names.length cn, .slice At r.tags.length ct, .slice Ak r.kids.length ck⟩)).length ≤ 6) := by show _ ≤ _; simp; omega
   first
    | exact ⟨_, _, rfl, ⟨HSE.out, OUT.out.1, OUT.out.2.1⟩, HLN.out, OUT.out.2.2.1, OUT.out.2.2.2⟩
    | exact ⟨_, rfl, _, ⟨HSE.out, OUT.out.1, OUT.out.2.1⟩, HLN.out, OUT.out.2.2.1, OUT.out.2.2.2⟩
 ·have PT := S3.out.put' k 3 hk (by omega) HQ.out (.bool (!r.little)) ⟨{ r with little := !r.little }, .slice Ab r.bytes.length cb, .slice An r.names.length cn, .slice At r.tags.length ct, .slice Ak r.kids.length ck⟩ rfl rfl ⟨rfl, rfl, rfl, rfl⟩
  have z5 : w3.cell? ⟨b, k * 8 + 3, none⟩ = some (Value.bool r.little) := PT.1.1
  have y5 : w3.frozen? ⟨b, k * 8 + 3, none⟩ = false := PT.1.2
  have M7 := Lib.hid (PT.2.ext (Ext_drew (Ext.refl _)))
  clear PT
  go_wp2_with fail
  go_region
  all_goals
   obtain ⟨W9, hW9⟩ : ∃ W9, W9 = (w3.setCell ⟨b, k * 8 + 3, none⟩ (.bool (!r.little))).drew := ⟨_, rfl⟩
   rw [← hW9] at M7 ⊢
   clear hW9 z5 y5 cd0 SX S3
   have cg : _ = some (Value.slice (some ⟨b, 0, none⟩) ps.length cap) := M7.out.box.cell 0
   have cr0 : _ = some (Value.slice none 0 0) := M7.out.res.cell 0
   have yr0 := M7.out.res.free 0
   have OUT := Lib.hid (DS.finish M7.out hbw)
   have z9 : (World.setCell (W9) ⟨w.heap.size, 0, none⟩ (Value.slice (some ⟨b, 0, none⟩) ps.length cap)).cell? ⟨w.heap.size, 0, none⟩ = some (Value.slice (some ⟨b, 0, none⟩) ps.length cap) := World.cell?_setCell_same _ _ _ cr0
   have HSE := Lib.hid (SmD_set (k := k) (p' := ⟨{ r with little := !r.little }, .slice Ab r.bytes.length cb, .slice An r.names.length cn, .slice At r.tags.length ct, .slice Ak r.kids.length ck⟩) HSM.out (⟨HSR.out.nm, HSR.out.lens, HSR.out.nms, HSR.out.kind, HSR.out.ints⟩))
   clear M7
   go_wp2
   refine bodyPost_ret (v := vdesc (Value.slice (some ⟨b, 0, none⟩) ps.length cap)) (by simp [results, Tryz.results53, go_sem, z9, vdesc]) rfl ?_
   have HLN : Hid ((ps.set k (⟨{ r with little := !r.little }, .slice Ab r.bytes.length cb, .slice An r.names.length cn, .slice At r.tags.length ct, .slice Ak r.kids.length ck⟩)).length ≤ 6) := by show _ ≤ _; simp; omega
   first
    | exact ⟨_, _, rfl, ⟨HSE.out, OUT.out.1, OUT.out.2.1⟩, HLN.out, OUT.out.2.2.1, OUT.out.2.2.2⟩
    | exact ⟨_, rfl, _, ⟨HSE.out, OUT.out.1, OUT.out.2.1⟩, HLN.out, OUT.out.2.2.1, OUT.out.2.2.2⟩
 ·have k0 : w3.cell? ⟨b, k * 8 + 7, none⟩ = some (Value.slice Ak r.kids.length ck) := S3.out.cellr k 7 hk (by omega) HQ.out
  have HBn : Hid (∀ z : Int, (r.kids.length + [z].length) * 8 ≤ 140737488355328) := fun z => by have := HSR.out.lens; simp; omega
  have HLn : Hid (∀ z : Int, (r.kids ++ [z]).length ≤ 140737488351232) := fun z => by have := HSR.out.lens; simp; omega
  have HWx : Hid (∀ x : Nat, below 8 x → x < 8 ∧ IntKind.i64.wrap ((x : Int) - 1) = (x : Int) - 1) := fun x hx => by
   have : x < 8 := by unfold below at hx; rw [if_neg (by omega)] at hx; omega
   exact ⟨this, IntWalk.i64_in _ (by omega)⟩
  go_wp2_with fail
  have HAB : lv2 (fun w' => w'.cell? ⟨g, 0, none⟩ = some (Value.slice (some ⟨b, 0, none⟩) ps.length cap)) (fun w' => w'.cell? ⟨b, k * 8 + 7, none⟩ = some (Value.slice Ak r.kids.length ck)) 2 w3.drew := ⟨SX.out.box.cell 0, SX.out.cellr k 7 hk (by omega) HQ.out⟩
  refine wp_region_C (C := fun j => lv2 (fun w' => w'.cell? ⟨g, 0, none⟩ = some (Value.slice (some ⟨b, 0, none⟩) ps.length cap)) (fun w' => w'.cell? ⟨b, k * 8 + 7, none⟩ = some (Value.slice Ak r.kids.length ck)) (([0, 1, 0, 0, 1, 0, 0, 0, 2, 0, 2, 2, 2, 1, 0, 0, 0] : List Nat).getD j 0)) (by kernel_rfl) ?_
  refine tkC 0 (i := 0) (v := ?_) rfl (by kernel_rfl) trivial (Or.inl ⟨by rfl, ?_⟩) ?_
  rotate_left
  ·(intro w hSw; clear hSw; go_simp; try with_reducible rfl)
  try simp only [Act.put, lpa, lpz, lps]
  refine tkC 0 (i := 2) (v := ?_) rfl (by kernel_rfl) trivial (Or.inl ⟨by rfl, ?_⟩) ?_
  rotate_left
  ·(intro w hSw; clear hSw; go_simp; try with_reducible rfl)
  try simp only [Act.put, lpa, lpz, lps]
  refine tkC 0 (i := 3) (v := ?_) rfl (by kernel_rfl) trivial (Or.inl ⟨by rfl, ?_⟩) ?_
  rotate_left
  ·(intro w hSw; clear hSw; go_simp; try with_reducible rfl)
  try simp only [Act.put, lpa, lpz, lps]
  refine tkC 0 (i := 5) (v := ?_) rfl (by kernel_rfl) trivial (Or.inl ⟨by rfl, ?_⟩) ?_
  rotate_left
  ·(intro w hSw; clear hSw; go_simp; try with_reducible rfl)
  try simp only [Act.put, lpa, lpz, lps]
  refine tkC 0 (i := 9) (v := ?_) rfl (by kernel_rfl) trivial (Or.inl ⟨by rfl, ?_⟩) ?_
  rotate_left
  ·(intro w hSw; clear hSw; go_simp; try with_reducible rfl)
  try simp only [Act.put, lpa, lpz, lps]
  refine tkC 1 (i := 4) (v := ?_) rfl (by kernel_rfl) (And.left HAB) (Or.inl ⟨by rfl, ?_⟩) ?_
  rotate_left
  ·(intro w hSw; have hfact : w.cell? ⟨g, 0, none⟩ = some (Value.slice (some ⟨b, 0, none⟩) ps.length cap) := hSw; clear hSw; go_simp; try with_reducible rfl)
  try simp only [Act.put, lpa, lpz, lps]
  refine tkC 0 (i := 6) (v := ?_) rfl (by kernel_rfl) trivial (Or.inl ⟨by rfl, ?_⟩) ?_
  rotate_left
  ·(intro w hSw; clear hSw; go_simp; try with_reducible rfl)
  try simp only [Act.put, lpa, lpz, lps]
  refine tkC 0 (i := 7) (v := ?_) rfl (by kernel_rfl) trivial (Or.inl ⟨by rfl, ?_⟩) ?_
  rotate_left
  ·(intro w hSw; clear hSw; go_simp; try with_reducible rfl)
  try simp only [Act.put, lpa, lpz, lps]
  refine tkC 1 (i := 1) (v := ?_) rfl (by kernel_rfl) (And.left HAB) (Or.inl ⟨by rfl, ?_⟩) ?_
  rotate_left
  ·(intro w hSw; have hfact : w.cell? ⟨g, 0, none⟩ = some (Value.slice (some ⟨b, 0, none⟩) ps.length cap) := hSw; clear hSw; go_simp; try with_reducible rfl)
  try simp only [Act.put, lpa, lpz, lps]
  refine tkC 2 (i := 8) (v := ?_) rfl (by kernel_rfl) HAB (Or.inl ⟨by rfl, ?_⟩) ?_
  rotate_left
  ·(intro w hSw; have hfact : w.cell? ⟨b, k * 8 + 7, none⟩ = some (Value.slice Ak r.kids.length ck) := hSw.2; clear hSw; go_simp; try with_reducible rfl)
  try simp only [Act.put, lpa, lpz, lps]
  refine wpAnyC_one (i := 10) (by kernel_rfl) rfl (fun K hK => ?_)
  go_simp
  go_at_call 30
  refine (CBe.out 8 _ SX.out.cur (by omega)).mono ?_
  rintro _ w5 ⟨x, hx, rfl, hC5, hg5⟩
  have HX := Lib.hid (HWx.out x hx)
  have hw5 := HX.out.2
  clear hx
  have S5 := Lib.hid (DS.moved SX.out hC5 hg5)
  clear hC5 hg5
  refine Shut.out hK _ _ ⟨S5.out.box.cell 0, S5.out.cellr k 7 hk (by omega) HQ.out⟩ ?_
  try simp only [Act.put, lpa, lpz, lps]
  refine wpAnyC_one (i := 11) (by kernel_rfl) rfl (fun K hK => ?_)
  go_simp
  refine Shut.out hK _ _ ⟨S5.out.box.cell 0, S5.out.cellr k 7 hk (by omega) HQ.out⟩ ?_
  try simp only [Act.put, lpa, lpz, lps]
  refine wpAnyC_one (i := 12) (by kernel_rfl) rfl (fun K hK => ?_)
  go_simp
  have S5' := Lib.hid (S5.out.ext (Ext_alloc (.cells #[.int .i64 ((x : Int) - 1)] 3) (Ext.refl _)))
  refine Shut.out hK _ _ ⟨S5'.out.box.cell 0, S5'.out.cellr k 7 hk (by omega) HQ.out⟩ ?_
  try simp only [Act.put, lpa, lpz, lps]
  refine wpAnyC_one (i := 13) (by kernel_rfl) rfl (fun K hK => ?_)
  refine step_appG rfl (.tmp 73) (.tmp 77) _ rfl E_int (by omega) wb _ vint (fun _ => rfl) (Value.slice Ak r.kids.length ck) rfl (some ⟨w5.heap.size, 0, none⟩) 1 1 rfl r.kids [(x : Int) - 1] (S5'.out.rule k hk HQ.out).k S5'.out.cur.2.1 rfl (fun _ => ⟨_, rfl, fun j u hu => (World.cell?_alloc_at' w5 [.int .i64 ((x : Int) - 1)] 3 j).trans (hu)⟩) (HBn.out _) ?_
  intro v7 w7 ho7 he7 hv7 hg7
  obtain ⟨A7, c7, hsh, _⟩ := OwnL.rd ho7 (HLn.out _)
  replace hsh : v7 = .slice A7 (r.kids.length + 1) c7 := (by rw [hsh, List.length_append]; rfl)
  subst hsh
  obtain ⟨⟨z7, y7, g7⟩, M7⟩ := S5'.out.app_k' k hk HQ.out ho7 he7 hv7 hg7
  have z7 : w7.cell? ⟨b, k * 8 + 7, none⟩ = some (Value.slice Ak r.kids.length ck) := z7
  clear ho7 he7 hv7 hg7
  have M7 := Lib.hid M7
  refine Shut.out hK _ _ g7 ?_
  try simp only [Act.put, lpa, lpz, lps]
  refine wpAnyC_one (i := 14) (by kernel_rfl) rfl (fun K hK => ?_)
  go_simp
  refine Shut.out hK _ _ trivial ?_
  try simp only [Act.put, lpa, lpz, lps]
  refine wpAnyC_one (i := 15) (by kernel_rfl) rfl (fun K hK => ?_)
  go_simp
  refine Shut.out hK _ _ trivial ?_
  try simp only [Act.put, lpa, lpz, lps]
  refine wpAnyC_one (i := 16) (by kernel_rfl) rfl (fun K hK => ?_)
  go_simp
  refine Shut.out hK _ _ trivial ?_
  try simp only [Act.put, lpa, lpz, lps]
  refine wpAnyC_done (by kernel_rfl) ?_ _
  have cg : _ = some (Value.slice (some ⟨b, 0, none⟩) ps.length cap) := M7.out.box.cell 0
  have cr0 : _ = some (Value.slice none 0 0) := M7.out.res.cell 0
  have yr0 := M7.out.res.free 0
  have OUT := Lib.hid (DS.finish M7.out hbw)
  have z9 : (World.setCell (w7.setCell ⟨b, k * 8 + 7, none⟩ (.slice A7 (r.kids.length + 1) c7)) ⟨w.heap.size, 0, none⟩ (Value.slice (some ⟨b, 0, none⟩) ps.length cap)).cell? ⟨w.heap.size, 0, none⟩ = some (Value.slice (some ⟨b, 0, none⟩) ps.length cap) := World.cell?_setCell_same _ _ _ cr0
  have HSE := Lib.hid (SmD_set (k := k) (p' := ⟨{ r with kids := r.kids ++ [(x : Int) - 1] }, .slice Ab r.bytes.length cb, .slice An r.names.length cn, .slice At r.tags.length ct, (.slice A7 (r.kids.length + 1) c7)⟩) HSM.out (⟨HSR.out.nm, by have := HSL.out.lens; (try dsimp only); simp only [List.length_append, List.length_singleton]; omega, HSR.out.nms, HSR.out.kind, ⟨HSR.out.ints.1, HSR.out.ints.2.1, fun z hz => (List.mem_append.1 hz).elim (fun h => HSR.out.ints.2.2 z h) (fun h => by have := HX.out.1; rw [List.mem_singleton.1 h]; omega)⟩⟩))
  clear M7
  go_wp2
  refine bodyPost_ret (v := vdesc (Value.slice (some ⟨b, 0, none⟩) ps.length cap)) (by simp [results, Tryz.results53, go_sem, z9, vdesc]) rfl ?_
  have HLN : Hid ((ps.set k (⟨{ r with kids := r.kids ++ [(x : Int) - 1] }, .slice Ab r.bytes.length cb, .slice An r.names.length cn, .slice At r.tags.length ct, (.slice A7 (r.kids.length + 1) c7)⟩)).length ≤ 6) := by show _ ≤ _; simp; omega
  first
   | exact ⟨_, _, rfl, ⟨HSE.out, OUT.out.1, OUT.out.2.1⟩, HLN.out, OUT.out.2.2.1, OUT.out.2.2.2⟩
   | exact ⟨_, rfl, _, ⟨HSE.out, OUT.out.1, OUT.out.2.1⟩, HLN.out, OUT.out.2.2.1, OUT.out.2.2.2⟩
 ·have k0 : w3.cell? ⟨b, k * 8 + 4, none⟩ = some (Value.slice Ab r.bytes.length cb) := S3.out.cellr k 4 hk (by omega) HQ.out
  have HBn : Hid (∀ z : UInt8, (r.bytes.length + [z].length) * 1 ≤ 140737488355328) := fun z => by have := HSR.out.lens; simp; omega
  have HLn : Hid (∀ z : UInt8, (r.bytes ++ [z]).length ≤ 140737488351232) := fun z => by have := HSR.out.lens; simp; omega
  have HWx : Hid (∀ x : Int, x ∈ [(0 : Int), 92] → ∃ y1 : Nat, IntKind.u8.wrap (y1 : Int) = (y1 : Int) ∧ vu8 (UInt8.ofNat y1) = .int .u8 y1 ∧ x = (y1 : Int)) := fun x hx => by
   simp only [List.mem_cons, List.not_mem_nil, or_false] at hx
   rcases hx with rfl | rfl
   ·exact ⟨0, rfl, rfl, rfl⟩
   ·exact ⟨92, rfl, rfl, rfl⟩
  go_wp2_with fail
  have HAB : lv2 (fun w' => w'.cell? ⟨g, 0, none⟩ = some (Value.slice (some ⟨b, 0, none⟩) ps.length cap)) (fun w' => w'.cell? ⟨b, k * 8 + 4, none⟩ = some (Value.slice Ab r.bytes.length cb)) 2 w3.drew := ⟨SX.out.box.cell 0, SX.out.cellr k 4 hk (by omega) HQ.out⟩
  refine wp_region_C (C := fun j => lv2 (fun w' => w'.cell? ⟨g, 0, none⟩ = some (Value.slice (some ⟨b, 0, none⟩) ps.length cap)) (fun w' => w'.cell? ⟨b, k * 8 + 4, none⟩ = some (Value.slice Ab r.bytes.length cb)) (([0, 1, 0, 0, 1, 0, 0, 0, 2, 0, 2, 2, 2, 2, 1, 0, 0, 0] : List Nat).getD j 0)) (by kernel_rfl) ?_
  refine tkC 0 (i := 0) (v := ?_) rfl (by kernel_rfl) trivial (Or.inl ⟨by rfl, ?_⟩) ?_
  rotate_left
  ·(intro w hSw; clear hSw; go_simp; try with_reducible rfl)
  try simp only [Act.put, lpa, lpz, lps]
  refine tkC 0 (i := 2) (v := ?_) rfl (by kernel_rfl) trivial (Or.inl ⟨by rfl, ?_⟩) ?_
  rotate_left
  ·(intro w hSw; clear hSw; go_simp; try with_reducible rfl)
  try simp only [Act.put, lpa, lpz, lps]
  refine tkC 0 (i := 3) (v := ?_) rfl (by kernel_rfl) trivial (Or.inl ⟨by rfl, ?_⟩) ?_
  rotate_left
  ·(intro w hSw; clear hSw; go_simp; try with_reducible rfl)
  try simp only [Act.put, lpa, lpz, lps]
  refine tkC 0 (i := 5) (v := ?_) rfl (by kernel_rfl) trivial (Or.inl ⟨by rfl, ?_⟩) ?_
  rotate_left
  ·(intro w hSw; clear hSw; go_simp; try with_reducible rfl)
  try simp only [Act.put, lpa, lpz, lps]
  refine tkC 0 (i := 9) (v := ?_) rfl (by kernel_rfl) trivial (Or.inl ⟨by rfl, ?_⟩) ?_
  rotate_left
  ·(intro w hSw; clear hSw; go_simp; try with_reducible rfl)
  try simp only [Act.put, lpa, lpz, lps]
  refine tkC 1 (i := 4) (v := ?_) rfl (by kernel_rfl) (And.left HAB) (Or.inl ⟨by rfl, ?_⟩) ?_
  rotate_left
  ·(intro w hSw; have hfact : w.cell? ⟨g, 0, none⟩ = some (Value.slice (some ⟨b, 0, none⟩) ps.length cap) := hSw; clear hSw; go_simp; try with_reducible rfl)
  try simp only [Act.put, lpa, lpz, lps]
  refine tkC 0 (i := 6) (v := ?_) rfl (by kernel_rfl) trivial (Or.inl ⟨by rfl, ?_⟩) ?_
  rotate_left
  ·(intro w hSw; clear hSw; go_simp; try with_reducible rfl)
  try simp only [Act.put, lpa, lpz, lps]
  refine tkC 0 (i := 7) (v := ?_) rfl (by kernel_rfl) trivial (Or.inl ⟨by rfl, ?_⟩) ?_
  rotate_left
  ·(intro w hSw; clear hSw; go_simp; try with_reducible rfl)
  try simp only [Act.put, lpa, lpz, lps]
  refine tkC 1 (i := 1) (v := ?_) rfl (by kernel_rfl) (And.left HAB) (Or.inl ⟨by rfl, ?_⟩) ?_
  rotate_left
  ·(intro w hSw; have hfact : w.cell? ⟨g, 0, none⟩ = some (Value.slice (some ⟨b, 0, none⟩) ps.length cap) := hSw; clear hSw; go_simp; try with_reducible rfl)
  try simp only [Act.put, lpa, lpz, lps]
  refine tkC 2 (i := 8) (v := ?_) rfl (by kernel_rfl) HAB (Or.inl ⟨by rfl, ?_⟩) ?_
  rotate_left
  ·(intro w hSw; have hfact : w.cell? ⟨b, k * 8 + 4, none⟩ = some (Value.slice Ab r.bytes.length cb) := hSw.2; clear hSw; go_simp; try with_reducible rfl)
  try simp only [Act.put, lpa, lpz, lps]
  refine wpAnyC_one (i := 10) (by kernel_rfl) rfl (fun K hK => ?_)
  go_simp
  have SL := Lib.hid (SX.out.ext (Ext_alloc (.cells #[.int .i64 0, .int .i64 92] 3) (Ext.refl _)))
  refine Shut.out hK _ _ ⟨SL.out.box.cell 0, SL.out.cellr k 4 hk (by omega) HQ.out⟩ ?_
  try simp only [Act.put, lpa, lpz, lps]
  refine wpAnyC_one (i := 11) (by kernel_rfl) rfl (fun K hK => ?_)
  go_simp
  go_at_call 45
  refine (l1IntBox_c [0, 92] (by simp) (by simp) 2 rfl #[.int .i64 0, .int .i64 92] rfl wb _ p A l c hA _ SL.out.cur (by first | exact Box.new' _ _ _ _ rfl | exact Box.newd' _ _ _ _ rfl)).mono ?_
  rintro _ w5 ⟨x, hx, rfl, hC5, hg5⟩
  obtain ⟨y1, hw5, hvy, rfl⟩ := HWx.out x hx
  have HY := Lib.hid hvy
  clear hx hvy
  have S5 := Lib.hid (DS.moved SL.out hC5 hg5)
  clear hC5 hg5
  refine Shut.out hK _ _ ⟨S5.out.box.cell 0, S5.out.cellr k 4 hk (by omega) HQ.out⟩ ?_
  try simp only [Act.put, lpa, lpz, lps]
  refine wpAnyC_one (i := 12) (by kernel_rfl) rfl (fun K hK => ?_)
  go_simp
  refine Shut.out hK _ _ ⟨S5.out.box.cell 0, S5.out.cellr k 4 hk (by omega) HQ.out⟩ ?_
  try simp only [Act.put, lpa, lpz, lps]
  refine wpAnyC_one (i := 13) (by kernel_rfl) rfl (fun K hK => ?_)
  go_simp
  have S5' := Lib.hid (S5.out.ext (Ext_alloc (.cells #[.int .u8 y1] 5) (Ext.refl _)))
  refine Shut.out hK _ _ ⟨S5'.out.box.cell 0, S5'.out.cellr k 4 hk (by omega) HQ.out⟩ ?_
  try simp only [Act.put, lpa, lpz, lps]
  refine wpAnyC_one (i := 14) (by kernel_rfl) rfl (fun K hK => ?_)
  refine step_appG rfl (.tmp 91) (.tmp 96) _ rfl E_u8 (by omega) wb _ vu8 (fun _ => rfl) (Value.slice Ab r.bytes.length cb) rfl (some ⟨w5.heap.size, 0, none⟩) 1 1 rfl r.bytes [UInt8.ofNat y1] (S5'.out.rule k hk HQ.out).b S5'.out.cur.2.1 rfl (fun _ => ⟨_, rfl, fun j u hu => (World.cell?_alloc_at' w5 [.int .u8 y1] 5 j).trans (by rw [← HY.out]; exact hu)⟩) (HBn.out _) ?_
  intro v7 w7 ho7 he7 hv7 hg7
  obtain ⟨A7, c7, hsh, _⟩ := OwnL.rd ho7 (HLn.out _)
  replace hsh : v7 = .slice A7 (r.bytes.length + 1) c7 := (by rw [hsh, List.length_append]; rfl)
  subst hsh
  obtain ⟨⟨z7, y7, g7⟩, M7⟩ := S5'.out.app_b' k hk HQ.out ho7 he7 hv7 hg7
  have z7 : w7.cell? ⟨b, k * 8 + 4, none⟩ = some (Value.slice Ab r.bytes.length cb) := z7
  clear ho7 he7 hv7 hg7
  have M7 := Lib.hid M7
  refine Shut.out hK _ _ g7 ?_
  try simp only [Act.put, lpa, lpz, lps]
  refine wpAnyC_one (i := 15) (by kernel_rfl) rfl (fun K hK => ?_)
  go_simp
  refine Shut.out hK _ _ trivial ?_
  try simp only [Act.put, lpa, lpz, lps]
  refine wpAnyC_one (i := 16) (by kernel_rfl) rfl (fun K hK => ?_)
  go_simp
  refine Shut.out hK _ _ trivial ?_
  try simp only [Act.put, lpa, lpz, lps]
  refine wpAnyC_one (i := 17) (by kernel_rfl) rfl (fun K hK => ?_)
  go_simp
  refine Shut.out hK _ _ trivial ?_
  try simp only [Act.put, lpa, lpz, lps]
  refine wpAnyC_done (by kernel_rfl) ?_ _
  have cg : _ = some (Value.slice (some ⟨b, 0, none⟩) ps.length cap) := M7.out.box.cell 0
  have cr0 : _ = some (Value.slice none 0 0) := M7.out.res.cell 0
  have yr0 := M7.out.res.free 0
  have OUT := Lib.hid (DS.finish M7.out hbw)
  have z9 : (World.setCell (w7.setCell ⟨b, k * 8 + 4, none⟩ (.slice A7 (r.bytes.length + 1) c7)) ⟨w.heap.size, 0, none⟩ (Value.slice (some ⟨b, 0, none⟩) ps.length cap)).cell? ⟨w.heap.size, 0, none⟩ = some (Value.slice (some ⟨b, 0, none⟩) ps.length cap) := World.cell?_setCell_same _ _ _ cr0
  have HSE := Lib.hid (SmD_set (k := k) (p' := ⟨{ r with bytes := r.bytes ++ [UInt8.ofNat y1] }, (.slice A7 (r.bytes.length + 1) c7), .slice An r.names.length cn, .slice At r.tags.length ct, .slice Ak r.kids.length ck⟩) HSM.out (⟨HSR.out.nm, by have := HSL.out.lens; (try dsimp only); simp only [List.length_append, List.length_singleton]; omega, HSR.out.nms, HSR.out.kind, HSR.out.ints⟩))
  clear M7
  go_wp2
  refine bodyPost_ret (v := vdesc (Value.slice (some ⟨b, 0, none⟩) ps.length cap)) (by simp [results, Tryz.results53, go_sem, z9, vdesc]) rfl ?_
  have HLN : Hid ((ps.set k (⟨{ r with bytes := r.bytes ++ [UInt8.ofNat y1] }, (.slice A7 (r.bytes.length + 1) c7), .slice An r.names.length cn, .slice At r.tags.length ct, .slice Ak r.kids.length ck⟩)).length ≤ 6) := by show _ ≤ _; simp; omega
  first
   | exact ⟨_, _, rfl, ⟨HSE.out, OUT.out.1, OUT.out.2.1⟩, HLN.out, OUT.out.2.2.1, OUT.out.2.2.2⟩
   | exact ⟨_, rfl, _, ⟨HSE.out, OUT.out.1, OUT.out.2.1⟩, HLN.out, OUT.out.2.2.1, OUT.out.2.2.2⟩
 ·have k0 : w3.cell? ⟨b, k * 8 + 5, none⟩ = some (Value.slice An r.names.length cn) := S3.out.cellr k 5 hk (by omega) HQ.out
  have HBn : Hid (∀ z : ByteArray, (r.names.length + [z].length) * 16 ≤ 140737488355328) := fun z => by have := HSR.out.lens; simp; omega
  have HLn : Hid (∀ z : ByteArray, (r.names ++ [z]).length ≤ 140737488351232) := fun z => by have := HSR.out.lens; simp; omega
  go_wp2_with fail
  have HAB : lv2 (fun w' => w'.cell? ⟨g, 0, none⟩ = some (Value.slice (some ⟨b, 0, none⟩) ps.length cap)) (fun w' => w'.cell? ⟨b, k * 8 + 5, none⟩ = some (Value.slice An r.names.length cn)) 2 w3.drew := ⟨SX.out.box.cell 0, SX.out.cellr k 5 hk (by omega) HQ.out⟩
  refine wp_region_C (C := fun j => lv2 (fun w' => w'.cell? ⟨g, 0, none⟩ = some (Value.slice (some ⟨b, 0, none⟩) ps.length cap)) (fun w' => w'.cell? ⟨b, k * 8 + 5, none⟩ = some (Value.slice An r.names.length cn)) (([0, 1, 0, 0, 1, 0, 0, 0, 2, 0, 2, 2, 2, 1, 0, 0, 0] : List Nat).getD j 0)) (by kernel_rfl) ?_
  refine tkC 0 (i := 0) (v := ?_) rfl (by kernel_rfl) trivial (Or.inl ⟨by rfl, ?_⟩) ?_
  rotate_left
  ·(intro w hSw; clear hSw; go_simp; try with_reducible rfl)
  try simp only [Act.put, lpa, lpz, lps]
  refine tkC 0 (i := 2) (v := ?_) rfl (by kernel_rfl) trivial (Or.inl ⟨by rfl, ?_⟩) ?_
  rotate_left
  ·(intro w hSw; clear hSw; go_simp; try with_reducible rfl)
  try simp only [Act.put, lpa, lpz, lps]
  refine tkC 0 (i := 3) (v := ?_) rfl (by kernel_rfl) trivial (Or.inl ⟨by rfl, ?_⟩) ?_
  rotate_left
  ·(intro w hSw; clear hSw; go_simp; try with_reducible rfl)
  try simp only [Act.put, lpa, lpz, lps]
  refine tkC 0 (i := 5) (v := ?_) rfl (by kernel_rfl) trivial (Or.inl ⟨by rfl, ?_⟩) ?_
  rotate_left
  ·(intro w hSw; clear hSw; go_simp; try with_reducible rfl)
  try simp only [Act.put, lpa, lpz, lps]
  refine tkC 0 (i := 9) (v := ?_) rfl (by kernel_rfl) trivial (Or.inl ⟨by rfl, ?_⟩) ?_
  rotate_left
  ·(intro w hSw; clear hSw; go_simp; try with_reducible rfl)
  try simp only [Act.put, lpa, lpz, lps]
  refine tkC 1 (i := 4) (v := ?_) rfl (by kernel_rfl) (And.left HAB) (Or.inl ⟨by rfl, ?_⟩) ?_
  rotate_left
  ·(intro w hSw; have hfact : w.cell? ⟨g, 0, none⟩ = some (Value.slice (some ⟨b, 0, none⟩) ps.length cap) := hSw; clear hSw; go_simp; try with_reducible rfl)
  try simp only [Act.put, lpa, lpz, lps]
  refine tkC 0 (i := 6) (v := ?_) rfl (by kernel_rfl) trivial (Or.inl ⟨by rfl, ?_⟩) ?_
  rotate_left
  ·(intro w hSw; clear hSw; go_simp; try with_reducible rfl)
  try simp only [Act.put, lpa, lpz, lps]
  refine tkC 0 (i := 7) (v := ?_) rfl (by kernel_rfl) trivial (Or.inl ⟨by rfl, ?_⟩) ?_
  rotate_left
  ·(intro w hSw; clear hSw; go_simp; try with_reducible rfl)
  try simp only [Act.put, lpa, lpz, lps]
  refine tkC 1 (i := 1) (v := ?_) rfl (by kernel_rfl) (And.left HAB) (Or.inl ⟨by rfl, ?_⟩) ?_
  rotate_left
  ·(intro w hSw; have hfact : w.cell? ⟨g, 0, none⟩ = some (Value.slice (some ⟨b, 0, none⟩) ps.length cap) := hSw; clear hSw; go_simp; try with_reducible rfl)
  try simp only [Act.put, lpa, lpz, lps]
  refine tkC 2 (i := 8) (v := ?_) rfl (by kernel_rfl) HAB (Or.inl ⟨by rfl, ?_⟩) ?_
  rotate_left
  ·(intro w hSw; have hfact : w.cell? ⟨b, k * 8 + 5, none⟩ = some (Value.slice An r.names.length cn) := hSw.2; clear hSw; go_simp; try with_reducible rfl)
  try simp only [Act.put, lpa, lpz, lps]
  refine wpAnyC_one (i := 10) (by kernel_rfl) rfl (fun K hK => ?_)
  go_simp
  have SL := Lib.hid (SX.out.ext (Ext_alloc (.cells #[.string ⟨#[112, 49]⟩, .string ⟨#[81]⟩, .string ⟨#[122]⟩] 9) (Ext.refl _)))
  refine Shut.out hK _ _ ⟨SL.out.box.cell 0, SL.out.cellr k 5 hk (by omega) HQ.out⟩ ?_
  try simp only [Act.put, lpa, lpz, lps]
  refine wpAnyC_one (i := 11) (by kernel_rfl) rfl (fun K hK => ?_)
  go_simp
  go_at_call 41
  refine (l1StrBox_c [⟨#[112, 49]⟩, ⟨#[81]⟩, ⟨#[122]⟩] (by simp) (by simp) 3 rfl #[.string ⟨#[112, 49]⟩, .string ⟨#[81]⟩, .string ⟨#[122]⟩] rfl wb _ p A l c hA _ SL.out.cur (by first | exact Box.new' _ _ _ _ rfl | exact Box.newd' _ _ _ _ rfl)).mono ?_
  rintro _ w5 ⟨x, hx, rfl, hC5, hg5⟩
  have HX := Lib.hid hx
  clear hx
  have S5 := Lib.hid (DS.moved SL.out hC5 hg5)
  clear hC5 hg5
  refine Shut.out hK _ _ ⟨S5.out.box.cell 0, S5.out.cellr k 5 hk (by omega) HQ.out⟩ ?_
  try simp only [Act.put, lpa, lpz, lps]
  refine wpAnyC_one (i := 12) (by kernel_rfl) rfl (fun K hK => ?_)
  go_simp
  have S5' := Lib.hid (S5.out.ext (Ext_alloc (.cells #[.string x] 9) (Ext.refl _)))
  refine Shut.out hK _ _ ⟨S5'.out.box.cell 0, S5'.out.cellr k 5 hk (by omega) HQ.out⟩ ?_
  try simp only [Act.put, lpa, lpz, lps]
  refine wpAnyC_one (i := 13) (by kernel_rfl) rfl (fun K hK => ?_)
  refine step_appG rfl (.tmp 110) (.tmp 114) _ rfl E_str (by omega) wb _ vstr (fun _ => rfl) (Value.slice An r.names.length cn) rfl (some ⟨w5.heap.size, 0, none⟩) 1 1 rfl r.names [x] (S5'.out.rule k hk HQ.out).n S5'.out.cur.2.1 rfl (fun _ => ⟨_, rfl, fun j u hu => (World.cell?_alloc_at' w5 [.string x] 9 j).trans (hu)⟩) (HBn.out _) ?_
  intro v7 w7 ho7 he7 hv7 hg7
  obtain ⟨A7, c7, hsh, _⟩ := OwnL.rd ho7 (HLn.out _)
  replace hsh : v7 = .slice A7 (r.names.length + 1) c7 := (by rw [hsh, List.length_append]; rfl)
  subst hsh
  obtain ⟨⟨z7, y7, g7⟩, M7⟩ := S5'.out.app_n' k hk HQ.out ho7 he7 hv7 hg7
  have z7 : w7.cell? ⟨b, k * 8 + 5, none⟩ = some (Value.slice An r.names.length cn) := z7
  clear ho7 he7 hv7 hg7
  have M7 := Lib.hid M7
  refine Shut.out hK _ _ g7 ?_
  try simp only [Act.put, lpa, lpz, lps]
  refine wpAnyC_one (i := 14) (by kernel_rfl) rfl (fun K hK => ?_)
  go_simp
  refine Shut.out hK _ _ trivial ?_
  try simp only [Act.put, lpa, lpz, lps]
  refine wpAnyC_one (i := 15) (by kernel_rfl) rfl (fun K hK => ?_)
  go_simp
  refine Shut.out hK _ _ trivial ?_
  try simp only [Act.put, lpa, lpz, lps]
  refine wpAnyC_one (i := 16) (by kernel_rfl) rfl (fun K hK => ?_)
  go_simp
  refine Shut.out hK _ _ trivial ?_
  try simp only [Act.put, lpa, lpz, lps]
  refine wpAnyC_done (by kernel_rfl) ?_ _
  have cg : _ = some (Value.slice (some ⟨b, 0, none⟩) ps.length cap) := M7.out.box.cell 0
  have cr0 : _ = some (Value.slice none 0 0) := M7.out.res.cell 0
  have yr0 := M7.out.res.free 0
  have OUT := Lib.hid (DS.finish M7.out hbw)
  have z9 : (World.setCell (w7.setCell ⟨b, k * 8 + 5, none⟩ (.slice A7 (r.names.length + 1) c7)) ⟨w.heap.size, 0, none⟩ (Value.slice (some ⟨b, 0, none⟩) ps.length cap)).cell? ⟨w.heap.size, 0, none⟩ = some (Value.slice (some ⟨b, 0, none⟩) ps.length cap) := World.cell?_setCell_same _ _ _ cr0
  have HSE := Lib.hid (SmD_set (k := k) (p' := ⟨{ r with names := r.names ++ [x] }, .slice Ab r.bytes.length cb, (.slice A7 (r.names.length + 1) c7), .slice At r.tags.length ct, .slice Ak r.kids.length ck⟩) HSM.out (⟨HSR.out.nm, by have := HSL.out.lens; (try dsimp only); simp only [List.length_append, List.length_singleton]; omega, fun z hz => (List.mem_append.1 hz).elim (fun h => HSR.out.nms z h) (fun h => by have h9 := HX.out; simp only [List.mem_cons, List.not_mem_nil, or_false] at h9; rw [List.mem_singleton.1 h]; rcases h9 with rfl | rfl | rfl <;> decide), HSR.out.kind, HSR.out.ints⟩))
  clear M7
  go_wp2
  refine bodyPost_ret (v := vdesc (Value.slice (some ⟨b, 0, none⟩) ps.length cap)) (by simp [results, Tryz.results53, go_sem, z9, vdesc]) rfl ?_
  have HLN : Hid ((ps.set k (⟨{ r with names := r.names ++ [x] }, .slice Ab r.bytes.length cb, (.slice A7 (r.names.length + 1) c7), .slice At r.tags.length ct, .slice Ak r.kids.length ck⟩)).length ≤ 6) := by show _ ≤ _; simp; omega
  first
   | exact ⟨_, _, rfl, ⟨HSE.out, OUT.out.1, OUT.out.2.1⟩, HLN.out, OUT.out.2.2.1, OUT.out.2.2.2⟩
   | exact ⟨_, rfl, _, ⟨HSE.out, OUT.out.1, OUT.out.2.1⟩, HLN.out, OUT.out.2.2.1, OUT.out.2.2.2⟩
 ·have k0 : w3.cell? ⟨b, k * 8 + 6, none⟩ = some (Value.slice At r.tags.length ct) := S3.out.cellr k 6 hk (by omega) HQ.out
  have HBn : Hid (∀ z : Int, (r.tags.length + [z].length) * 8 ≤ 140737488355328) := fun z => by have := HSR.out.lens; simp; omega
  have HLn : Hid (∀ z : Int, (r.tags ++ [z]).length ≤ 140737488351232) := fun z => by have := HSR.out.lens; simp; omega
  go_wp2_with fail
  have HAB : lv2 (fun w' => w'.cell? ⟨g, 0, none⟩ = some (Value.slice (some ⟨b, 0, none⟩) ps.length cap)) (fun w' => w'.cell? ⟨b, k * 8 + 6, none⟩ = some (Value.slice At r.tags.length ct)) 2 w3.drew := ⟨SX.out.box.cell 0, SX.out.cellr k 6 hk (by omega) HQ.out⟩
  refine wp_region_C (C := fun j => lv2 (fun w' => w'.cell? ⟨g, 0, none⟩ = some (Value.slice (some ⟨b, 0, none⟩) ps.length cap)) (fun w' => w'.cell? ⟨b, k * 8 + 6, none⟩ = some (Value.slice At r.tags.length ct)) (([0, 1, 0, 0, 1, 0, 0, 0, 2, 0, 2, 2, 2, 1, 0, 0, 0] : List Nat).getD j 0)) (by kernel_rfl) ?_
  refine tkC 0 (i := 0) (v := ?_) rfl (by kernel_rfl) trivial (Or.inl ⟨by rfl, ?_⟩) ?_
  rotate_left
  ·(intro w hSw; clear hSw; go_simp; try with_reducible rfl)
  try simp only [Act.put, lpa, lpz, lps]
  refine tkC 0 (i := 2) (v := ?_) rfl (by kernel_rfl) trivial (Or.inl ⟨by rfl, ?_⟩) ?_
  rotate_left
  ·(intro w hSw; clear hSw; go_simp; try with_reducible rfl)
  try simp only [Act.put, lpa, lpz, lps]
  refine tkC 0 (i := 3) (v := ?_) rfl (by kernel_rfl) trivial (Or.inl ⟨by rfl, ?_⟩) ?_
  rotate_left
  ·(intro w hSw; clear hSw; go_simp; try with_reducible rfl)
  try simp only [Act.put, lpa, lpz, lps]
  refine tkC 0 (i := 5) (v := ?_) rfl (by kernel_rfl) trivial (Or.inl ⟨by rfl, ?_⟩) ?_
  rotate_left
  ·(intro w hSw; clear hSw; go_simp; try with_reducible rfl)
  try simp only [Act.put, lpa, lpz, lps]
  refine tkC 0 (i := 9) (v := ?_) rfl (by kernel_rfl) trivial (Or.inl ⟨by rfl, ?_⟩) ?_
  rotate_left
  ·(intro w hSw; clear hSw; go_simp; try with_reducible rfl)
  try simp only [Act.put, lpa, lpz, lps]
  refine tkC 1 (i := 4) (v := ?_) rfl (by kernel_rfl) (And.left HAB) (Or.inl ⟨by rfl, ?_⟩) ?_
  rotate_left
  ·(intro w hSw; have hfact : w.cell? ⟨g, 0, none⟩ = some (Value.slice (some ⟨b, 0, none⟩) ps.length cap) := hSw; clear hSw; go_simp; try with_reducible rfl)
  try simp only [Act.put, lpa, lpz, lps]
  refine tkC 0 (i := 6) (v := ?_) rfl (by kernel_rfl) trivial (Or.inl ⟨by rfl, ?_⟩) ?_
  rotate_left
  ·(intro w hSw; clear hSw; go_simp; try with_reducible rfl)
  try simp only [Act.put, lpa, lpz, lps]
  refine tkC 0 (i := 7) (v := ?_) rfl (by kernel_rfl) trivial (Or.inl ⟨by rfl, ?_⟩) ?_
  rotate_left
  ·(intro w hSw; clear hSw; go_simp; try with_reducible rfl)
  try simp only [Act.put, lpa, lpz, lps]
  refine tkC 1 (i := 1) (v := ?_) rfl (by kernel_rfl) (And.left HAB) (Or.inl ⟨by rfl, ?_⟩) ?_
  rotate_left
  ·(intro w hSw; have hfact : w.cell? ⟨g, 0, none⟩ = some (Value.slice (some ⟨b, 0, none⟩) ps.length cap) := hSw; clear hSw; go_simp; try with_reducible rfl)
  try simp only [Act.put, lpa, lpz, lps]
  refine tkC 2 (i := 8) (v := ?_) rfl (by kernel_rfl) HAB (Or.inl ⟨by rfl, ?_⟩) ?_
  rotate_left
  ·(intro w hSw; have hfact : w.cell? ⟨b, k * 8 + 6, none⟩ = some (Value.slice At r.tags.length ct) := hSw.2; clear hSw; go_simp; try with_reducible rfl)
  try simp only [Act.put, lpa, lpz, lps]
  refine wpAnyC_one (i := 10) (by kernel_rfl) rfl (fun K hK => ?_)
  go_simp
  have SL := Lib.hid (SX.out.ext (Ext_alloc (.cells #[.int .i64 (-1), .int .i64 0, .int .i64 5, .int .i64 256, .int .i64 70000] 3) (Ext.refl _)))
  refine Shut.out hK _ _ ⟨SL.out.box.cell 0, SL.out.cellr k 6 hk (by omega) HQ.out⟩ ?_
  try simp only [Act.put, lpa, lpz, lps]
  refine wpAnyC_one (i := 11) (by kernel_rfl) rfl (fun K hK => ?_)
  go_simp
  go_at_call 45
  refine (l1IntBox_c [-1, 0, 5, 256, 70000] (by simp) (by simp) 5 rfl #[.int .i64 (-1), .int .i64 0, .int .i64 5, .int .i64 256, .int .i64 70000] rfl wb _ p A l c hA _ SL.out.cur (by first | exact Box.new' _ _ _ _ rfl | exact Box.newd' _ _ _ _ rfl)).mono ?_
  rintro _ w5 ⟨x, hx, rfl, hC5, hg5⟩
  have HX := Lib.hid hx
  clear hx
  have S5 := Lib.hid (DS.moved SL.out hC5 hg5)
  clear hC5 hg5
  refine Shut.out hK _ _ ⟨S5.out.box.cell 0, S5.out.cellr k 6 hk (by omega) HQ.out⟩ ?_
  try simp only [Act.put, lpa, lpz, lps]
  refine wpAnyC_one (i := 12) (by kernel_rfl) rfl (fun K hK => ?_)
  go_simp
  have S5' := Lib.hid (S5.out.ext (Ext_alloc (.cells #[.int .i64 x] 3) (Ext.refl _)))
  refine Shut.out hK _ _ ⟨S5'.out.box.cell 0, S5'.out.cellr k 6 hk (by omega) HQ.out⟩ ?_
  try simp only [Act.put, lpa, lpz, lps]
  refine wpAnyC_one (i := 13) (by kernel_rfl) rfl (fun K hK => ?_)
  refine step_appG rfl (.tmp 128) (.tmp 132) _ rfl E_int (by omega) wb _ vint (fun _ => rfl) (Value.slice At r.tags.length ct) rfl (some ⟨w5.heap.size, 0, none⟩) 1 1 rfl r.tags [x] (S5'.out.rule k hk HQ.out).t S5'.out.cur.2.1 rfl (fun _ => ⟨_, rfl, fun j u hu => (World.cell?_alloc_at' w5 [.int .i64 x] 3 j).trans (hu)⟩) (HBn.out _) ?_
  intro v7 w7 ho7 he7 hv7 hg7
  obtain ⟨A7, c7, hsh, _⟩ := OwnL.rd ho7 (HLn.out _)
  replace hsh : v7 = .slice A7 (r.tags.length + 1) c7 := (by rw [hsh, List.length_append]; rfl)
  subst hsh
  obtain ⟨⟨z7, y7, g7⟩, M7⟩ := S5'.out.app_t' k hk HQ.out ho7 he7 hv7 hg7
  have z7 : w7.cell? ⟨b, k * 8 + 6, none⟩ = some (Value.slice At r.tags.length ct) := z7
  clear ho7 he7 hv7 hg7
  have M7 := Lib.hid M7
  refine Shut.out hK _ _ g7 ?_
  try simp only [Act.put, lpa, lpz, lps]
  refine wpAnyC_one (i := 14) (by kernel_rfl) rfl (fun K hK => ?_)
  go_simp
  refine Shut.out hK _ _ trivial ?_
  try simp only [Act.put, lpa, lpz, lps]
  refine wpAnyC_one (i := 15) (by kernel_rfl) rfl (fun K hK => ?_)
  go_simp
  refine Shut.out hK _ _ trivial ?_
  try simp only [Act.put, lpa, lpz, lps]
  refine wpAnyC_one (i := 16) (by kernel_rfl) rfl (fun K hK => ?_)
  go_simp
  refine Shut.out hK _ _ trivial ?_
  try simp only [Act.put, lpa, lpz, lps]
  refine wpAnyC_done (by kernel_rfl) ?_ _
  have cg : _ = some (Value.slice (some ⟨b, 0, none⟩) ps.length cap) := M7.out.box.cell 0
  have cr0 : _ = some (Value.slice none 0 0) := M7.out.res.cell 0
  have yr0 := M7.out.res.free 0
  have OUT := Lib.hid (DS.finish M7.out hbw)
  have z9 : (World.setCell (w7.setCell ⟨b, k * 8 + 6, none⟩ (.slice A7 (r.tags.length + 1) c7)) ⟨w.heap.size, 0, none⟩ (Value.slice (some ⟨b, 0, none⟩) ps.length cap)).cell? ⟨w.heap.size, 0, none⟩ = some (Value.slice (some ⟨b, 0, none⟩) ps.length cap) := World.cell?_setCell_same _ _ _ cr0
  have HSE := Lib.hid (SmD_set (k := k) (p' := ⟨{ r with tags := r.tags ++ [x] }, .slice Ab r.bytes.length cb, .slice An r.names.length cn, (.slice A7 (r.tags.length + 1) c7), .slice Ak r.kids.length ck⟩) HSM.out (⟨HSR.out.nm, by have := HSL.out.lens; (try dsimp only); simp only [List.length_append, List.length_singleton]; omega, HSR.out.nms, HSR.out.kind, ⟨HSR.out.ints.1, fun z hz => (List.mem_append.1 hz).elim (fun h => HSR.out.ints.2.1 z h) (fun h => by have h9 := HX.out; simp at h9; rw [List.mem_singleton.1 h]; omega), HSR.out.ints.2.2⟩⟩))
  clear M7
  go_wp2
  refine bodyPost_ret (v := vdesc (Value.slice (some ⟨b, 0, none⟩) ps.length cap)) (by simp [results, Tryz.results53, go_sem, z9, vdesc]) rfl ?_
  have HLN : Hid ((ps.set k (⟨{ r with tags := r.tags ++ [x] }, .slice Ab r.bytes.length cb, .slice An r.names.length cn, (.slice A7 (r.tags.length + 1) c7), .slice Ak r.kids.length ck⟩)).length ≤ 6) := by show _ ≤ _; simp; omega
  first
   | exact ⟨_, _, rfl, ⟨HSE.out, OUT.out.1, OUT.out.2.1⟩, HLN.out, OUT.out.2.2.1, OUT.out.2.2.2⟩
   | exact ⟨_, rfl, _, ⟨HSE.out, OUT.out.1, OUT.out.2.1⟩, HLN.out, OUT.out.2.2.1, OUT.out.2.2.2⟩
 ·have cr0 : _ = some (Value.slice none 0 0) := S3.out.res.cell 0
  have yr0 := S3.out.res.free 0
  have OUT : Hid (Cur wb (w3.setCell ⟨w.heap.size, 0, none⟩ (.slice none 0 0)) p A l c ∧ w.grownBy (w3.setCell ⟨w.heap.size, 0, none⟩ (.slice none 0 0)) (some p)) :=
   ⟨S3.out.cur.set (a := ⟨w.heap.size, 0, none⟩) (fun hh => S3.out.pR hh.symm) hbw _, grown_new (a := ⟨w.heap.size, 0, none⟩) S3.out.grow (Nat.le_refl _) _⟩
  have z9 : (w3.setCell ⟨w.heap.size, 0, none⟩ (.slice none 0 0)).cell? ⟨w.heap.size, 0, none⟩ = some (.slice none 0 0) := World.cell?_setCell_same _ _ _ cr0
  clear S3 SX
  go_wp2
  exact bodyPost_ret (v := vdesc (.slice none 0 0)) (by simp [results, Tryz.results53, go_sem, z9, vdesc]) rfl ⟨.slice none 0 0, [], rfl, ⟨⟨by simp [rulesOf], by simp [rulesOf]⟩, ⟨⟨by simp, .inl ⟨rfl, rfl⟩⟩, by simp, Far.one _⟩, by simp [Value.ownBlock]⟩, by simp, OUT.out.1, OUT.out.2⟩
 ·have M7 : Hid (DS wb w w3 p A l c g (.slice (some ⟨b, 0, none⟩) ps.length cap) (ps.set k ⟨r, .slice Ab r.bytes.length cb, .slice An r.names.length cn, .slice At r.tags.length ct, .slice Ak r.kids.length ck⟩) w.heap.size) := by
   show DS _ _ _ _ _ _ _ _ _ _ _
   rw [← HQ.out, List.set_getElem_self hk]; exact S3.out
  clear S3 SX
  have cg : _ = some (Value.slice (some ⟨b, 0, none⟩) ps.length cap) := M7.out.box.cell 0
  have cr0 : _ = some (Value.slice none 0 0) := M7.out.res.cell 0
  have yr0 := M7.out.res.free 0
  have OUT := Lib.hid (DS.finish M7.out hbw)
  have z9 : (World.setCell (w3) ⟨w.heap.size, 0, none⟩ (Value.slice (some ⟨b, 0, none⟩) ps.length cap)).cell? ⟨w.heap.size, 0, none⟩ = some (Value.slice (some ⟨b, 0, none⟩) ps.length cap) := World.cell?_setCell_same _ _ _ cr0
  have HSE := Lib.hid (SmD_set (k := k) (p' := ⟨r, .slice Ab r.bytes.length cb, .slice An r.names.length cn, .slice At r.tags.length ct, .slice Ak r.kids.length ck⟩) HSM.out (⟨HSR.out.nm, HSR.out.lens, HSR.out.nms, HSR.out.kind, HSR.out.ints⟩))
  clear M7
  go_wp2
  refine bodyPost_ret (v := vdesc (Value.slice (some ⟨b, 0, none⟩) ps.length cap)) (by simp [results, Tryz.results53, go_sem, z9, vdesc]) rfl ?_
  have HLN : Hid ((ps.set k (⟨r, .slice Ab r.bytes.length cb, .slice An r.names.length cn, .slice At r.tags.length ct, .slice Ak r.kids.length ck⟩)).length ≤ 6) := by show _ ≤ _; simp; omega
  first
   | exact ⟨_, _, rfl, ⟨HSE.out, OUT.out.1, OUT.out.2.1⟩, HLN.out, OUT.out.2.2.1, OUT.out.2.2.2⟩
   | exact ⟨_, rfl, _, ⟨HSE.out, OUT.out.1, OUT.out.2.1⟩, HLN.out, OUT.out.2.2.1, OUT.out.2.2.2⟩
def WideR (x y : DRule) (j : Nat) : Prop := y = x ∨ (x.kind = 7 ∧ x.tags.length < 8 ∧ ∃ (z k : Nat), z < 3 ∧ below j k ∧ y = { x with tags := x.tags ++ [x.tags.getD (x.tags.length - 1) 0 + 1 + (z : Int)], kids := x.kids ++ [(k : Int)] })
structure WI (ds : List DRule) (ps : List RV) (i : Nat) : Prop where
 len : ps.length = ds.length
 wid : ∀ j (h : j < ps.length) (h' : j < ds.length), j < i → WideR ds[j] ps[j].r j
 old : ∀ j (h : j < ps.length) (h' : j < ds.length), i ≤ j → ps[j].r = ds[j]
theorem WI.zero {ds : List DRule} {ps : List RV} (h : rulesOf ps = ds) : WI ds ps 0 := by
 subst h
 exact ⟨by simp [rulesOf], fun j _ _ hj => by omega, fun j h h' _ => by simp [rulesOf]⟩
theorem WI.skip {ds : List DRule} {ps : List RV} {i : Nat} (h : WI ds ps i) : WI ds ps (i + 1) :=
 ⟨h.len, fun j h1 h2 hj => by
  rcases (by omega : j < i ∨ j = i) with h3 | rfl
  ·exact h.wid j h1 h2 h3
  ·exact .inl (h.old j h1 h2 (Nat.le_refl _)), fun j h1 h2 hj => h.old j h1 h2 (by omega)⟩
theorem WI.put {ds : List DRule} {ps : List RV} {i : Nat} (h : WI ds ps i) (hi : i < ps.length) (hi' : i < ds.length) {p' : RV} (hp : WideR ds[i] p'.r i) : WI ds (ps.set i p') (i + 1) :=
 ⟨by rw [List.length_set]; exact h.len, fun j h1 h2 hj => by
  rw [List.length_set] at h1
  rw [List.getElem_set]
  split
  ·rename_i e; subst e; exact hp
  ·exact h.wid j h1 h2 (by omega), fun j h1 h2 hj => by
  rw [List.length_set] at h1
  rw [List.getElem_set, if_neg (by omega)]
  exact h.old j h1 h2 (by omega)⟩
theorem WideR.sm {x y : DRule} {j : Nat} (h : WideR x y j) (hs : SmallR x) (hk : -100 ≤ x.kind ∧ x.kind ≤ 100) (hj : j ≤ 24) : SmR y := by
 rcases h with rfl | ⟨_, _, z, k, hz, hkb, rfl⟩
 ·exact hs.sm hk
 ·have hl : -100000 ≤ x.tags.getD (x.tags.length - 1) 0 ∧ x.tags.getD (x.tags.length - 1) 0 ≤ 100000 := by
   rw [List.getD_eq_getElem?_getD]
   cases he : x.tags[x.tags.length - 1]? with
   | none => simp
   | some u => exact ⟨(hs.ints.2.1 u (List.mem_of_getElem? he)).1, by have := (hs.ints.2.1 u (List.mem_of_getElem? he)).2; show u ≤ 100000; omega⟩
  have hk2 : (k : Int) ≤ 24 := by unfold below at hkb; split at hkb <;> omega
  refine ⟨by have := hs.nm; dsimp only; omega, by have := hs.lens; simp only [List.length_append, List.length_singleton]; omega, fun t ht => by have := hs.nms t ht; omega, hk, ⟨hs.ints.1, fun u hu => ?_, fun u hu => ?_⟩⟩
  ·rcases List.mem_append.1 hu with h1 | h1
   ·have := hs.ints.2.1 u h1; omega
   ·rw [List.mem_singleton.1 h1]; omega
  ·rcases List.mem_append.1 hu with h1 | h1
   ·have := hs.ints.2.2 u h1; omega
   ·rw [List.mem_singleton.1 h1]; omega
theorem l29Wider_c (Aa : Option Addr) (ds : List DRule) (ca : Nat) (hSm : SmallD ds) (hT : ∀ i (h : i < ds.length), ds[i].kind = 7 → 0 < ds[i].tags.length) (wb w : World) (p : Nat) (A : Option Addr) (l : List UInt8) (c : Nat) (hA : Bs wb A l c) (hC : Cur wb w p A l c) (hD : RdD w Aa ds ca) :
 Calls Tryz.prog 22 #[.pointer (some ⟨p, 0, none⟩), vdesc (.slice Aa ds.length ca)] w fun e w' => ∃ v ps, e = .returned (vdesc v) ∧ WI ds ps ds.length ∧ OwnD wb w' v ps ∧ (∀ u ∈ v :: ps.flatMap RV.vals, ∀ b, u.ownBlock = some b → w.heap.size ≤ b) ∧ Cur wb w' p A l c ∧ w.grownBy w' (some p) := by
 have hplt := hC.lt
 have hbw := hC.2.1.size
 have hDn := hSm.1
 have CBe := Lib.hid (fun n w h hn => l1Below_c n wb w p A l c hA h hn)
 have COn := Lib.hid (fun n w h hn => l1Once_c n wb w p A l c hA h hn)
 have hsz : szD ds ≤ 1048576 := SmallD.szD hSm
 have CC := Lib.hid (fun w h => sCopyD_c Aa ds ca w h hsz)
 have HSm := Lib.hid hSm; have HT := Lib.hid hT; have HD := Lib.hid hD
 clear hSm hT hsz
 obtain ⟨W0, hW0, HP, HR, e0, hsA⟩ := boxes2' w #[.slice Aa ds.length ca] #[.slice none 0 0] 26 26
 have HP0 := Lib.hid HP; have HR0 := Lib.hid HR
 have zp : _ = some (Value.slice Aa ds.length ca) := HP.cell 0
 have hsA := Lib.hid hsA
 clear HP HR
 unfold vdesc at *
 go_enter Tryz.func22, Tryz.ntmps22
 go_wp2_with fail
 rw [← hW0.out]
 refine (CC.out _ (HD.out.ext e0)).mono ?_; rintro _ w2 ⟨v, ps, rfl, hps, hO, e2⟩
 have hR2 := HR0.out.ext e2
 have hRl := hR2.lt
 have x2 := Ext_alloc (.cells #[v] 26) (Ext.refl w2)
 have S2 : Hid (DS wb w (w2.alloc (.cells #[v] 26)) p A l c w2.heap.size v ps (w.heap.size + 1)) :=
  ⟨Box.new w2 _ _, (hO.ext x2).down (by have := hsA.out; omega), fun u hu b hb => by
   have h1 := hO.block u hu b hb
   have := hsA.out
   exact ⟨by omega, by omega, by omega, by omega⟩, ((hC.ext e0).ext e2).ext x2, grown_ext ((e0.trans e2).trans x2) _, by omega, by omega, by omega, hR2.ext x2, by omega, by omega⟩
 have hWI := Lib.hid (WI.zero hps)
 obtain ⟨Av, cv, hv⟩ := hO.shape
 subst hv
 clear hO hps e2 x2 hR2 CC HP0 HR0 hC zp e0
 go_wp2
 go_loopw [6] (fun t wr => ∃ (i : Nat) (v : Value) (ps : List RV), i ≤ ds.length ∧ t = .int .i64 i ∧ Hid (WI ds ps i) ∧ Hid (DS wb w wr p A l c w2.heap.size v ps (w.heap.size + 1))) (fun t _ => ds.length - (intOf t).toNat)
 case atStart => exact ⟨0, _, ps, by omega, rfl, hWI, S2⟩
 case round =>
  clear hWI S2
  obtain ⟨i, v, ps, hi, rfl, hWI, S3⟩ := hrel
  have hpl := hWI.out.len
  obtain ⟨Av, cap, hv⟩ := S3.out.own.shape
  subst hv
  have cd0 : _ = some (Value.slice Av ps.length cap) := S3.out.box.cell 0
  by_cases hlt : i < ds.length
  ·have hk : i < ps.length := by omega
   obtain ⟨b, hAv⟩ : ∃ b, Av = some ⟨b, 0, none⟩ := by
    rcases S3.out.own.row.2 with ⟨_, h0⟩ | ⟨b, cap', cur, hv, _⟩
    ·omega
    ·injection hv with q1 _ _; exact ⟨b, q1⟩
   subst hAv
   obtain ⟨q, hq⟩ : ∃ q, ps[i] = q := ⟨_, rfl⟩
   have hqr : q.r = ds[i] := by rw [← hq]; exact hWI.out.old i hk hlt (Nat.le_refl _)
   have hsr : SmallR q.r := hqr ▸ HSm.out.2 _ (List.getElem_mem hlt)
   have HRO := S3.out.rule i hk hq
   obtain ⟨r, vb, vn, vt, vk⟩ := q
   obtain ⟨Ab, cb, An, cn, At, ct, Ak, ck, hs1, hs2, hs3, hs4, hRS⟩ := HRO.rd hsr.short
   dsimp only at hs1 hs2 hs3 hs4 hsr hqr
   subst hs1; subst hs2; subst hs3; subst hs4
   have HQ := Lib.hid hq; have HSR := Lib.hid hsr; have HQR := Lib.hid hqr
   have l0 : wr.cell? ⟨b, i * 8, none⟩ = some (.string r.nm) := S3.out.cellr i 0 hk (by omega) hq
   have l1 : wr.cell? ⟨b, i * 8 + 1, none⟩ = some (.int .i64 r.kind) := S3.out.cellr i 1 hk (by omega) hq
   have l2 : wr.cell? ⟨b, i * 8 + 2, none⟩ = some (.int .i64 r.size) := S3.out.cellr i 2 hk (by omega) hq
   have l3 : wr.cell? ⟨b, i * 8 + 3, none⟩ = some (.bool r.little) := S3.out.cellr i 3 hk (by omega) hq
   have l4 : wr.cell? ⟨b, i * 8 + 4, none⟩ = some (Value.slice Ab r.bytes.length cb) := S3.out.cellr i 4 hk (by omega) hq
   have l5 : wr.cell? ⟨b, i * 8 + 5, none⟩ = some (Value.slice An r.names.length cn) := S3.out.cellr i 5 hk (by omega) hq
   have l6 : wr.cell? ⟨b, i * 8 + 6, none⟩ = some (Value.slice At r.tags.length ct) := S3.out.cellr i 6 hk (by omega) hq
   have l7 : wr.cell? ⟨b, i * 8 + 7, none⟩ = some (Value.slice Ak r.kids.length ck) := S3.out.cellr i 7 hk (by omega) hq
   have b1 : (i : Int) < (ps.length : Int) := by omega
   have b0 : (0 : Int) ≤ (i : Int) := by omega
   have HTr : Hid (r.kind = 7 → 0 < r.tags.length) := fun h7 => by rw [hqr] at h7 ⊢; exact HT.out i hlt h7
   have xr := Ext_alloc (.cells #[.string r.nm, .int .i64 r.kind, .int .i64 r.size, .bool r.little, .slice Ab r.bytes.length cb, .slice An r.names.length cn, .slice At r.tags.length ct, .slice Ak r.kids.length ck] 51) (Ext.refl wr)
   have HRb := Lib.hid (Box.new wr #[.string r.nm, .int .i64 r.kind, .int .i64 r.size, .bool r.little, .slice Ab r.bytes.length cb, .slice An r.names.length cn, .slice At r.tags.length ct, .slice Ak r.kids.length ck] 51)
   have S4 := Lib.hid (S3.out.ext xr)
   have HRT := Lib.hid (hRS.t.ext xr)
   have HWS := Lib.hid hWI.out.skip
   obtain ⟨W4, hW4⟩ : ∃ W4, W4 = wr.alloc (.cells #[.string r.nm, .int .i64 r.kind, .int .i64 r.size, .bool r.little, .slice Ab r.bytes.length cb, .slice An r.names.length cn, .slice At r.tags.length ct, .slice Ak r.kids.length ck] 51) := ⟨_, rfl⟩
   rw [← hW4] at HRb S4 HRT
   have HW4 := Lib.hid hW4
   clear hq hqr hsr hRS HRO xr hW4
   have hlw := hpl
   by_cases h7 : r.kind = 7
   ·have hb7 : (r.kind != 7) = false := by simp [h7]
    have H7 := Lib.hid h7
    clear h7
    by_cases h8 : 8 ≤ r.tags.length
    ·have d8 : decide ((8 : Int) ≤ (r.tags.length : Int)) = true := decide_eq_true (by omega)
     have d8' : decide (8 ≤ r.tags.length) = true := decide_eq_true h8
     rw [HW4.out] at S4
     clear HW4 HRb HRT S3 hWI hpl
     go_wp2
     go_roundw
     case rel => exact ⟨i + 1, _, ps, by omega, by go_num, HWS, S4⟩
     case measure => simp [intOf]; omega
    ·have d8 : decide ((8 : Int) ≤ (r.tags.length : Int)) = false := decide_eq_false (by omega)
     have d8' : decide (8 ≤ r.tags.length) = false := decide_eq_false h8
     go_wp2_with fail
     rw [← HW4.out]
     refine (COn.out 4 _ S4.out.cur (by omega)).mono ?_; rintro _ w5 ⟨z, rfl, hC5, hg5⟩
     have S5 := Lib.hid (S4.out.moved hC5 hg5)
     have hrp : (some p : Option Nat) ≠ some wr.heap.size := some_ne (by have := S3.out.cur.lt; omega)
     have HB5 := Lib.hid (HRb.out.moved hg5 hrp)
     clear hC5 hg5 HRb S4 HW4 HRT l0 l1 l2 l3 l4 l5 l6 l7 cd0
     cases z
     ·obtain ⟨At5, ct5, hv5, hR5⟩ := OwnL.rd (S5.out.rule i hk HQ.out).t (by have := HSR.out.lens; show r.tags.length ≤ _; omega)
      dsimp only at hv5 hR5
      injection hv5 with q1 _ q2
      subst q1; subst q2
      obtain ⟨m, hm⟩ : ∃ m, r.tags.length = m + 1 := ⟨r.tags.length - 1, by have := HTr.out H7.out; omega⟩
      obtain ⟨bt, ot, rfl, _, hcl⟩ := hR5.1.at m (by omega)
      obtain ⟨z0, hz0⟩ : ∃ z0, r.tags[m]'(by omega) = z0 := ⟨_, rfl⟩
      have hcl0 : ∀ w', Ext w5 w' → w'.cell? ⟨bt, ot + m, none⟩ = some (.int .i64 z0) := fun w' e => by rw [hcl w' e, hz0]; rfl
      have HZL : Hid (z0 = r.tags.getD (r.tags.length - 1) 0) := by
       show _ = _
       have e : r.tags.length - 1 = m := by omega
       rw [e, ← hz0, List.getD_eq_getElem?_getD, List.getElem?_eq_getElem (by omega)]; rfl
      have hzb : -100000 ≤ z0 ∧ z0 ≤ 100 := by rw [← hz0]; exact HSR.out.ints.2.1 _ (List.getElem_mem _)
      have hm1 : (r.tags.length : Int) - 1 = (m : Int) := by omega
      have hwm : IntKind.i64.wrap (m : Int) = (m : Int) := IntWalk.i64_in _ (by have := HSR.out.lens; omega)
      have hwz : IntKind.i64.wrap (z0 + 1) = z0 + 1 := IntWalk.i64_in _ (by omega)
      have hwy : Hid (∀ y : Nat, y < 3 → IntKind.i64.wrap (z0 + 1 + (y : Int)) = z0 + 1 + (y : Int)) := fun y hy => IntWalk.i64_in _ (by omega)
      have m0 : (0 : Int) ≤ (m : Int) := by omega
      have m2 : (m : Int) < (r.tags.length : Int) := by omega
      have m3 : m < r.tags.length := by omega
      have HMM := Lib.hid hm
      have HCT : Hid (∀ w', DS wb w w' p A l c w2.heap.size (.slice (some ⟨b, 0, none⟩) ps.length cap) ps (w.heap.size + 1) → w'.cell? ⟨bt, ot + m, none⟩ = some (.int .i64 z0)) := fun w' h => by
       obtain ⟨A', c', hv, hR⟩ := OwnL.rd (h.rule i hk HQ.out).t (by have := HSR.out.lens; show r.tags.length ≤ _; omega)
       dsimp only at hv hR
       injection hv with q1 _ q2
       subst q1; subst q2
       obtain ⟨bt', ot', hab, _, hcl'⟩ := hR.at m (by omega)
       injection hab with hab
       injection hab with e1 e2 _
       subst e1; subst e2
       rw [hcl' w' (Ext.refl _), hz0]; rfl
      have SX := Lib.hid (S5.out.ext (Ext_drew (Ext.refl w5)))
      have hcd := Lib.hid hcl0
      clear hm hcl hR5 hz0 hcl0
      go_wp2_with fail
      have HAB : lv2 (fun w' => w'.cell? ⟨wr.heap.size, 6, none⟩ = some (Value.slice (some ⟨bt, ot, none⟩) r.tags.length ct)) (fun w' => w'.cell? ⟨bt, ot + m, none⟩ = some (.int .i64 z0)) 2 w5.drew := ⟨(HB5.out.ext (Ext_drew (Ext.refl w5))).cell 6, hcd.out _ (Ext_drew (Ext.refl w5))⟩
      refine wp_region_C (C := fun j => lv2 (fun w' => w'.cell? ⟨wr.heap.size, 6, none⟩ = some (Value.slice (some ⟨bt, ot, none⟩) r.tags.length ct)) (fun w' => w'.cell? ⟨bt, ot + m, none⟩ = some (.int .i64 z0)) (([0, 1, 0, 1, 0, 0, 0, 2, 0, 0, 2, 0, 0] : List Nat).getD j 0)) (by kernel_rfl) ?_
      refine tkC 0 (i := 0) (v := ?_) rfl (by kernel_rfl) trivial (Or.inl ⟨by rfl, ?_⟩) ?_
      rotate_left
      ·(intro w hSw; clear hSw; go_simp; try with_reducible rfl)
      try simp only [Act.put, lpa, lpz, lps]
      refine tkC 0 (i := 2) (v := ?_) rfl (by kernel_rfl) trivial (Or.inl ⟨by rfl, ?_⟩) ?_
      rotate_left
      ·(intro w hSw; clear hSw; go_simp; try with_reducible rfl)
      try simp only [Act.put, lpa, lpz, lps]
      refine tkC 0 (i := 9) (v := ?_) rfl (by kernel_rfl) trivial (Or.inl ⟨by rfl, ?_⟩) ?_
      rotate_left
      ·(intro w hSw; clear hSw; go_simp; try with_reducible rfl)
      try simp only [Act.put, lpa, lpz, lps]
      refine tkC 1 (i := 3) (v := ?_) rfl (by kernel_rfl) (And.left HAB) (Or.inl ⟨by rfl, ?_⟩) ?_
      rotate_left
      ·(intro w hSw; have hfact : w.cell? ⟨wr.heap.size, 6, none⟩ = some (Value.slice (some ⟨bt, ot, none⟩) r.tags.length ct) := hSw; clear hSw; go_simp; try with_reducible rfl)
      try simp only [Act.put, lpa, lpz, lps]
      refine tkC 0 (i := 4) (v := ?_) rfl (by kernel_rfl) trivial (Or.inl ⟨by rfl, ?_⟩) ?_
      rotate_left
      ·(intro w hSw; clear hSw; go_simp; try with_reducible rfl)
      try simp only [Act.put, lpa, lpz, lps]
      refine tkC 0 (i := 5) (v := ?_) rfl (by kernel_rfl) trivial (Or.inl ⟨by rfl, ?_⟩) ?_
      rotate_left
      ·(intro w hSw; clear hSw; go_simp; try with_reducible rfl)
      try simp only [Act.put, lpa, lpz, lps]
      refine tkC 1 (i := 1) (v := ?_) rfl (by kernel_rfl) (And.left HAB) (Or.inl ⟨by rfl, ?_⟩) ?_
      rotate_left
      ·(intro w hSw; have hfact : w.cell? ⟨wr.heap.size, 6, none⟩ = some (Value.slice (some ⟨bt, ot, none⟩) r.tags.length ct) := hSw; clear hSw; go_simp; try with_reducible rfl)
      try simp only [Act.put, lpa, lpz, lps]
      refine tkC 0 (i := 6) (v := ?_) rfl (by kernel_rfl) trivial (Or.inl ⟨by rfl, ?_⟩) ?_
      rotate_left
      ·(intro w hSw; clear hSw; go_simp; try with_reducible rfl)
      try simp only [Act.put, lpa, lpz, lps]
      refine tkC 2 (i := 7) (v := ?_) rfl (by kernel_rfl) HAB (Or.inl ⟨by rfl, ?_⟩) ?_
      rotate_left
      ·(intro w hSw; have hfact : w.cell? ⟨bt, ot + m, none⟩ = some (.int .i64 z0) := hSw.2; clear hSw; go_simp; try with_reducible rfl)
      try simp only [Act.put, lpa, lpz, lps]
      refine tkC 0 (i := 8) (v := ?_) rfl (by kernel_rfl) trivial (Or.inl ⟨by rfl, ?_⟩) ?_
      rotate_left
      ·(intro w hSw; clear hSw; go_simp; try with_reducible rfl)
      try simp only [Act.put, lpa, lpz, lps]
      refine wpAnyC_one (i := 10) (by kernel_rfl) rfl (fun K hK => ?_)
      go_simp
      go_at_call 30
      refine (CBe.out 3 _ SX.out.cur (by omega)).mono ?_
      rintro _ w6 ⟨y, hy, rfl, hC6, hg6⟩
      have hy3 : y < 3 := by unfold below at hy; rw [if_neg (by omega)] at hy; omega
      have hw6 := hwy.out y hy3
      have S6 := Lib.hid (DS.moved SX.out hC6 hg6)
      have L6 : lv2 (fun w' => w'.cell? ⟨wr.heap.size, 6, none⟩ = some (Value.slice (some ⟨bt, ot, none⟩) r.tags.length ct)) (fun w' => w'.cell? ⟨bt, ot + m, none⟩ = some (.int .i64 z0)) 2 w6 := ⟨((HB5.out.ext (Ext_drew (Ext.refl w5))).moved hg6 hrp).cell 6, HCT.out _ S6.out⟩
      clear hy hC6 hg6
      refine Shut.out hK _ _ L6 ?_
      try simp only [Act.put, lpa, lpz, lps]
      refine wpAnyC_one (i := 11) (by kernel_rfl) rfl (fun K hK => ?_)
      go_simp
      refine Shut.out hK _ _ trivial ?_
      try simp only [Act.put, lpa, lpz, lps]
      refine wpAnyC_one (i := 12) (by kernel_rfl) rfl (fun K hK => ?_)
      go_simp
      refine Shut.out hK _ _ trivial ?_
      try simp only [Act.put, lpa, lpz, lps]
      refine wpAnyC_done (by kernel_rfl) ?_ _
      have S6' := S6
      clear HAB SX hcd hm1 hwm hwz hwy m0 m2 m3 HB5 S5 hw6 HCT L6
      have SX := Lib.hid (S6.out.ext (Ext_drew (Ext.refl w6)))
      have HB : Hid (∀ z : Int, (r.tags.length + [z].length) * 8 ≤ 140737488355328) := fun z => by have := HSR.out.lens; simp; omega
      have HL : Hid (∀ z : Int, (r.tags ++ [z]).length ≤ 140737488351232) := fun z => by have := HSR.out.lens; simp; omega
      go_wp2_with fail
      have HAB : lv2 (fun w' => w'.cell? ⟨w2.heap.size, 0, none⟩ = some (Value.slice (some ⟨b, 0, none⟩) ps.length cap)) (fun w' => w'.cell? ⟨b, i * 8 + 6, none⟩ = some (Value.slice (some ⟨bt, ot, none⟩) r.tags.length ct)) 2 w6.drew := ⟨SX.out.box.cell 0, SX.out.cellr i 6 hk (by omega) HQ.out⟩
      refine wp_region_C (C := fun j => lv2 (fun w' => w'.cell? ⟨w2.heap.size, 0, none⟩ = some (Value.slice (some ⟨b, 0, none⟩) ps.length cap)) (fun w' => w'.cell? ⟨b, i * 8 + 6, none⟩ = some (Value.slice (some ⟨bt, ot, none⟩) r.tags.length ct)) (([0, 1, 0, 0, 1, 0, 0, 0, 2, 0, 2, 1, 0, 0, 0] : List Nat).getD j 0)) (by kernel_rfl) ?_
      refine tkC 0 (i := 0) (v := ?_) rfl (by kernel_rfl) trivial (Or.inl ⟨by rfl, ?_⟩) ?_
      rotate_left
      ·(intro w hSw; clear hSw; go_simp; try with_reducible rfl)
      try simp only [Act.put, lpa, lpz, lps]
      refine tkC 0 (i := 2) (v := ?_) rfl (by kernel_rfl) trivial (Or.inl ⟨by rfl, ?_⟩) ?_
      rotate_left
      ·(intro w hSw; clear hSw; go_simp; try with_reducible rfl)
      try simp only [Act.put, lpa, lpz, lps]
      refine tkC 0 (i := 3) (v := ?_) rfl (by kernel_rfl) trivial (Or.inl ⟨by rfl, ?_⟩) ?_
      rotate_left
      ·(intro w hSw; clear hSw; go_simp; try with_reducible rfl)
      try simp only [Act.put, lpa, lpz, lps]
      refine tkC 0 (i := 5) (v := ?_) rfl (by kernel_rfl) trivial (Or.inl ⟨by rfl, ?_⟩) ?_
      rotate_left
      ·(intro w hSw; clear hSw; go_simp; try with_reducible rfl)
      try simp only [Act.put, lpa, lpz, lps]
      refine tkC 0 (i := 9) (v := ?_) rfl (by kernel_rfl) trivial (Or.inl ⟨by rfl, ?_⟩) ?_
      rotate_left
      ·(intro w hSw; clear hSw; go_simp; try with_reducible rfl)
      try simp only [Act.put, lpa, lpz, lps]
      refine tkC 1 (i := 4) (v := ?_) rfl (by kernel_rfl) (And.left HAB) (Or.inl ⟨by rfl, ?_⟩) ?_
      rotate_left
      ·(intro w hSw; have hfact : w.cell? ⟨w2.heap.size, 0, none⟩ = some (Value.slice (some ⟨b, 0, none⟩) ps.length cap) := hSw; clear hSw; go_simp; try with_reducible rfl)
      try simp only [Act.put, lpa, lpz, lps]
      refine tkC 0 (i := 6) (v := ?_) rfl (by kernel_rfl) trivial (Or.inl ⟨by rfl, ?_⟩) ?_
      rotate_left
      ·(intro w hSw; clear hSw; go_simp; try with_reducible rfl)
      try simp only [Act.put, lpa, lpz, lps]
      refine tkC 0 (i := 7) (v := ?_) rfl (by kernel_rfl) trivial (Or.inl ⟨by rfl, ?_⟩) ?_
      rotate_left
      ·(intro w hSw; clear hSw; go_simp; try with_reducible rfl)
      try simp only [Act.put, lpa, lpz, lps]
      refine tkC 1 (i := 1) (v := ?_) rfl (by kernel_rfl) (And.left HAB) (Or.inl ⟨by rfl, ?_⟩) ?_
      rotate_left
      ·(intro w hSw; have hfact : w.cell? ⟨w2.heap.size, 0, none⟩ = some (Value.slice (some ⟨b, 0, none⟩) ps.length cap) := hSw; clear hSw; go_simp; try with_reducible rfl)
      try simp only [Act.put, lpa, lpz, lps]
      refine tkC 2 (i := 8) (v := ?_) rfl (by kernel_rfl) HAB (Or.inl ⟨by rfl, ?_⟩) ?_
      rotate_left
      ·(intro w hSw; have hfact : w.cell? ⟨b, i * 8 + 6, none⟩ = some (Value.slice (some ⟨bt, ot, none⟩) r.tags.length ct) := hSw.2; clear hSw; go_simp; try with_reducible rfl)
      try simp only [Act.put, lpa, lpz, lps]
      refine wpAnyC_one (i := 10) (by kernel_rfl) rfl (fun K hK => ?_)
      go_simp
      have S5' := Lib.hid (SX.out.ext (Ext_alloc (.cells #[.int .i64 (z0 + 1 + (y : Int))] 3) (Ext.refl _)))
      refine Shut.out hK _ _ ⟨S5'.out.box.cell 0, S5'.out.cellr i 6 hk (by omega) HQ.out⟩ ?_
      try simp only [Act.put, lpa, lpz, lps]
      refine wpAnyC_one (i := 11) (by kernel_rfl) rfl (fun K hK => ?_)
      refine step_appG rfl (.tmp 56) (.tmp 58) _ rfl E_int (by omega) wb _ vint (fun _ => rfl) (Value.slice (some ⟨bt, ot, none⟩) r.tags.length ct) rfl (some ⟨w6.heap.size, 0, none⟩) 1 1 (by first | rfl | (simp [Act.eval, Act.put]; done)) r.tags [z0 + 1 + (y : Int)] (S5'.out.rule i hk HQ.out).t S5'.out.cur.2.1 rfl (fun _ => ⟨_, rfl, fun j u hu => (World.cell?_alloc_at' w6.drew [.int .i64 (z0 + 1 + (y : Int))] 3 j).trans (hu)⟩) (HB.out _) ?_
      intro v7 w7 ho7 he7 hv7 hg7
      obtain ⟨A7, c7, hsh, _⟩ := OwnL.rd ho7 (HL.out _)
      replace hsh : v7 = .slice A7 (r.tags.length + 1) c7 := (by rw [hsh, List.length_append]; rfl)
      subst hsh
      obtain ⟨⟨z7, y7, g7⟩, M7⟩ := S5'.out.app_t' i hk HQ.out ho7 he7 hv7 hg7
      have z7 : w7.cell? ⟨b, i * 8 + 6, none⟩ = some (Value.slice (some ⟨bt, ot, none⟩) r.tags.length ct) := z7
      clear ho7 he7 hv7 hg7
      have M7 := Lib.hid M7
      refine Shut.out hK _ _ g7 ?_
      try simp only [Act.put, lpa, lpz, lps]
      refine wpAnyC_one (i := 12) (by kernel_rfl) rfl (fun K hK => ?_)
      go_simp
      refine Shut.out hK _ _ trivial ?_
      try simp only [Act.put, lpa, lpz, lps]
      refine wpAnyC_one (i := 13) (by kernel_rfl) rfl (fun K hK => ?_)
      go_simp
      refine Shut.out hK _ _ trivial ?_
      try simp only [Act.put, lpa, lpz, lps]
      refine wpAnyC_one (i := 14) (by kernel_rfl) rfl (fun K hK => ?_)
      go_simp
      refine Shut.out hK _ _ trivial ?_
      try simp only [Act.put, lpa, lpz, lps]
      refine wpAnyC_done (by kernel_rfl) ?_ _
      clear HAB SX S6 S6' HB HL z7 y7 g7 S5'
      obtain ⟨W8, hW8⟩ : ∃ W8, W8 = w7.setCell ⟨b, i * 8 + 6, none⟩ (.slice A7 (r.tags.length + 1) c7) := ⟨_, rfl⟩
      rw [← hW8] at M7 ⊢
      clear hW8
      have S8 := M7
      clear M7
      have HQ9 : Hid ((ps.set i (⟨{ r with tags := r.tags ++ [z0 + 1 + (y : Int)] }, .slice Ab r.bytes.length cb, .slice An r.names.length cn, .slice A7 (r.tags.length + 1) c7, .slice Ak r.kids.length ck⟩ : RV))[i]'(by simpa using hk) = (⟨{ r with tags := r.tags ++ [z0 + 1 + (y : Int)] }, .slice Ab r.bytes.length cb, .slice An r.names.length cn, .slice A7 (r.tags.length + 1) c7, .slice Ak r.kids.length ck⟩ : RV)) := by show _ = _; simp
      have hk9 : i < (ps.set i (⟨{ r with tags := r.tags ++ [z0 + 1 + (y : Int)] }, .slice Ab r.bytes.length cb, .slice An r.names.length cn, .slice A7 (r.tags.length + 1) c7, .slice Ak r.kids.length ck⟩ : RV)).length := by simpa using hk
      have SX9 := Lib.hid (S8.out.ext (Ext_drew (Ext.refl W8)))
      have HB : Hid (∀ z : Int, (r.kids.length + [z].length) * 8 ≤ 140737488355328) := fun z => by have := HSR.out.lens; simp; omega
      have HL : Hid (∀ z : Int, (r.kids ++ [z]).length ≤ 140737488351232) := fun z => by have := HSR.out.lens; simp; omega
      go_wp2_with fail
      have HAB : lv2 (fun w' => w'.cell? ⟨w2.heap.size, 0, none⟩ = some (Value.slice (some ⟨b, 0, none⟩) ps.length cap)) (fun w' => w'.cell? ⟨b, i * 8 + 7, none⟩ = some (Value.slice Ak r.kids.length ck)) 2 W8.drew := ⟨SX9.out.box.cell 0, SX9.out.cellr i 7 hk9 (by omega) HQ9.out⟩
      refine wp_region_C (C := fun j => lv2 (fun w' => w'.cell? ⟨w2.heap.size, 0, none⟩ = some (Value.slice (some ⟨b, 0, none⟩) ps.length cap)) (fun w' => w'.cell? ⟨b, i * 8 + 7, none⟩ = some (Value.slice Ak r.kids.length ck)) (([0, 1, 0, 0, 1, 0, 0, 0, 2, 0, 0, 2, 2, 1, 0, 0, 0] : List Nat).getD j 0)) (by kernel_rfl) ?_
      refine tkC 0 (i := 0) (v := ?_) rfl (by kernel_rfl) trivial (Or.inl ⟨by rfl, ?_⟩) ?_
      rotate_left
      ·(intro w hSw; clear hSw; go_simp; try with_reducible rfl)
      try simp only [Act.put, lpa, lpz, lps]
      refine tkC 0 (i := 2) (v := ?_) rfl (by kernel_rfl) trivial (Or.inl ⟨by rfl, ?_⟩) ?_
      rotate_left
      ·(intro w hSw; clear hSw; go_simp; try with_reducible rfl)
      try simp only [Act.put, lpa, lpz, lps]
      refine tkC 0 (i := 3) (v := ?_) rfl (by kernel_rfl) trivial (Or.inl ⟨by rfl, ?_⟩) ?_
      rotate_left
      ·(intro w hSw; clear hSw; go_simp; try with_reducible rfl)
      try simp only [Act.put, lpa, lpz, lps]
      refine tkC 0 (i := 5) (v := ?_) rfl (by kernel_rfl) trivial (Or.inl ⟨by rfl, ?_⟩) ?_
      rotate_left
      ·(intro w hSw; clear hSw; go_simp; try with_reducible rfl)
      try simp only [Act.put, lpa, lpz, lps]
      refine tkC 0 (i := 9) (v := ?_) rfl (by kernel_rfl) trivial (Or.inl ⟨by rfl, ?_⟩) ?_
      rotate_left
      ·(intro w hSw; clear hSw; go_simp; try with_reducible rfl)
      try simp only [Act.put, lpa, lpz, lps]
      refine tkC 0 (i := 10) (v := ?_) rfl (by kernel_rfl) trivial (Or.inl ⟨by rfl, ?_⟩) ?_
      rotate_left
      ·(intro w hSw; clear hSw; go_simp; try with_reducible rfl)
      try simp only [Act.put, lpa, lpz, lps]
      refine tkC 1 (i := 4) (v := ?_) rfl (by kernel_rfl) (And.left HAB) (Or.inl ⟨by rfl, ?_⟩) ?_
      rotate_left
      ·(intro w hSw; have hfact : w.cell? ⟨w2.heap.size, 0, none⟩ = some (Value.slice (some ⟨b, 0, none⟩) ps.length cap) := hSw; clear hSw; go_simp; try with_reducible rfl)
      try simp only [Act.put, lpa, lpz, lps]
      refine tkC 0 (i := 6) (v := ?_) rfl (by kernel_rfl) trivial (Or.inl ⟨by rfl, ?_⟩) ?_
      rotate_left
      ·(intro w hSw; clear hSw; go_simp; try with_reducible rfl)
      try simp only [Act.put, lpa, lpz, lps]
      refine tkC 0 (i := 7) (v := ?_) rfl (by kernel_rfl) trivial (Or.inl ⟨by rfl, ?_⟩) ?_
      rotate_left
      ·(intro w hSw; clear hSw; go_simp; try with_reducible rfl)
      try simp only [Act.put, lpa, lpz, lps]
      refine tkC 1 (i := 1) (v := ?_) rfl (by kernel_rfl) (And.left HAB) (Or.inl ⟨by rfl, ?_⟩) ?_
      rotate_left
      ·(intro w hSw; have hfact : w.cell? ⟨w2.heap.size, 0, none⟩ = some (Value.slice (some ⟨b, 0, none⟩) ps.length cap) := hSw; clear hSw; go_simp; try with_reducible rfl)
      try simp only [Act.put, lpa, lpz, lps]
      refine tkC 2 (i := 8) (v := ?_) rfl (by kernel_rfl) HAB (Or.inl ⟨by rfl, ?_⟩) ?_
      rotate_left
      ·(intro w hSw; have hfact : w.cell? ⟨b, i * 8 + 7, none⟩ = some (Value.slice Ak r.kids.length ck) := hSw.2; clear hSw; go_simp; try with_reducible rfl)
      try simp only [Act.put, lpa, lpz, lps]
      refine wpAnyC_one (i := 11) (by kernel_rfl) rfl (fun K hK => ?_)
      go_simp
      go_at_call 30
      refine (CBe.out i _ SX9.out.cur (by omega)).mono ?_
      rintro _ w10 ⟨k, hkb, rfl, hC5, hg5⟩
      have S5 := Lib.hid (DS.moved SX9.out hC5 hg5)
      clear hC5 hg5
      refine Shut.out hK _ _ ⟨S5.out.box.cell 0, S5.out.cellr i 7 hk9 (by omega) HQ9.out⟩ ?_
      try simp only [Act.put, lpa, lpz, lps]
      refine wpAnyC_one (i := 12) (by kernel_rfl) rfl (fun K hK => ?_)
      go_simp
      have S5' := Lib.hid (S5.out.ext (Ext_alloc (.cells #[.int .i64 k] 3) (Ext.refl _)))
      refine Shut.out hK _ _ ⟨S5'.out.box.cell 0, S5'.out.cellr i 7 hk9 (by omega) HQ9.out⟩ ?_
      try simp only [Act.put, lpa, lpz, lps]
      refine wpAnyC_one (i := 13) (by kernel_rfl) rfl (fun K hK => ?_)
      refine step_appG rfl (.tmp 70) (.tmp 74) _ rfl E_int (by omega) wb _ vint (fun _ => rfl) (Value.slice Ak r.kids.length ck) rfl (some ⟨w10.heap.size, 0, none⟩) 1 1 (by first | rfl | (simp [Act.eval, Act.put]; done)) r.kids [(k : Int)] (S5'.out.rule i hk9 HQ9.out).k S5'.out.cur.2.1 rfl (fun _ => ⟨_, rfl, fun j u hu => (World.cell?_alloc_at' w10 [.int .i64 k] 3 j).trans (hu)⟩) (HB.out _) ?_
      intro v7 w9 ho7 he7 hv7 hg7
      obtain ⟨A9, c9, hsh, _⟩ := OwnL.rd ho7 (HL.out _)
      replace hsh : v7 = .slice A9 (r.kids.length + 1) c9 := (by rw [hsh, List.length_append]; rfl)
      subst hsh
      obtain ⟨⟨z7, y7, g7⟩, M7⟩ := S5'.out.app_k' i hk9 HQ9.out ho7 he7 hv7 hg7
      have z7 : w9.cell? ⟨b, i * 8 + 7, none⟩ = some (Value.slice Ak r.kids.length ck) := z7
      clear ho7 he7 hv7 hg7
      have M7 := Lib.hid M7
      refine Shut.out hK _ _ g7 ?_
      try simp only [Act.put, lpa, lpz, lps]
      refine wpAnyC_one (i := 14) (by kernel_rfl) rfl (fun K hK => ?_)
      go_simp
      refine Shut.out hK _ _ trivial ?_
      try simp only [Act.put, lpa, lpz, lps]
      refine wpAnyC_one (i := 15) (by kernel_rfl) rfl (fun K hK => ?_)
      go_simp
      refine Shut.out hK _ _ trivial ?_
      try simp only [Act.put, lpa, lpz, lps]
      refine wpAnyC_one (i := 16) (by kernel_rfl) rfl (fun K hK => ?_)
      go_simp
      refine Shut.out hK _ _ trivial ?_
      try simp only [Act.put, lpa, lpz, lps]
      refine wpAnyC_done (by kernel_rfl) ?_ _
      have HWP : Hid (WI ds (ps.set i (⟨{ r with tags := r.tags ++ [z0 + 1 + (y : Int)], kids := r.kids ++ [(k : Int)] }, .slice Ab r.bytes.length cb, .slice An r.names.length cn, .slice A7 (r.tags.length + 1) c7, .slice A9 (r.kids.length + 1) c9⟩ : RV)) (i + 1)) := by
       refine hWI.out.put hk hlt ?_
       rw [← HQR.out]
       exact .inr ⟨H7.out, by omega, y, k, hy3, hkb, by rw [HZL.out]⟩
      rw [List.set_set] at M7
      clear HAB SX9 S8 S5'
      go_wp2
      go_roundw
      case rel => exact ⟨i + 1, _, _, by omega, by go_num, HWP, M7⟩
      case measure => simp [intOf]; omega
     ·clear HB5 S3 hWI
      go_wp2
      go_roundw
      case rel => exact ⟨i + 1, _, ps, by omega, by go_num, HWS, S5⟩
      case measure => simp [intOf]; omega
   ·have hb7 : (r.kind != 7) = true := by simp [h7]
    clear h7
    rw [HW4.out] at S4
    clear HW4 HRb HRT S3 hWI hpl
    go_wp2
    go_roundw
    case rel => exact ⟨i + 1, _, ps, by omega, by go_num, HWS, S4⟩
    case measure => simp [intOf]; omega
  ·obtain rfl : i = ds.length := by omega
   have d0 : decide ((ds.length : Int) < (ps.length : Int)) = false := decide_eq_false (by omega)
   have d1 : decide (ds.length < ps.length) = false := decide_eq_false (by omega)
   have d2 : ¬ ds.length < ps.length := by omega
   have cr0 : _ = some (Value.slice none 0 0) := S3.out.res.cell 0
   have yr0 := S3.out.res.free 0
   have OUT : Hid (OwnD wb (wr.setCell ⟨w.heap.size + 1, 0, none⟩ (.slice Av ps.length cap)) (.slice Av ps.length cap) ps ∧ Cur wb (wr.setCell ⟨w.heap.size + 1, 0, none⟩ (.slice Av ps.length cap)) p A l c ∧ w.grownBy (wr.setCell ⟨w.heap.size + 1, 0, none⟩ (.slice Av ps.length cap)) (some p)) :=
    ⟨S3.out.own.keep (grown_set wr ⟨w.heap.size + 1, 0, none⟩ _) (fun u hu b hb hh => by injection hh with hh; exact (S3.out.new u hu b hb).2.2.2 hh.symm), S3.out.cur.set (a := ⟨w.heap.size + 1, 0, none⟩) (fun hh => S3.out.pR hh.symm) (by show wb.heap.size ≤ w.heap.size + 1; omega) _, grown_new (a := ⟨w.heap.size + 1, 0, none⟩) S3.out.grow (by show w.heap.size ≤ w.heap.size + 1; omega) _⟩
   have z5 : (wr.setCell ⟨w.heap.size + 1, 0, none⟩ (.slice Av ps.length cap)).cell? ⟨w.heap.size + 1, 0, none⟩ = some (.slice Av ps.length cap) := World.cell?_setCell_same _ _ _ cr0
   have HNW := Lib.hid (fun u hu b hb => (S3.out.new u hu b hb).1)
   have HWZ := hWI
   clear S3 hWI hpl
   go_wp2_with fail
   refine bodyPost_ret (v := .agg #[.slice Av ps.length cap]) (by simp [results, Tryz.results22, go_sem, z5]) rfl ?_
   first
    | exact ⟨_, ps, rfl, HWZ.out, OUT.out.1, HNW.out, OUT.out.2.1, OUT.out.2.2⟩
    | exact ⟨_, rfl, ps, HWZ.out, OUT.out.1, HNW.out, OUT.out.2.1, OUT.out.2.2⟩
def Same (n0 : Nat) (w w' : World) : Prop := w.heap.size ≤ w'.heap.size ∧ ∀ i, n0 ≤ i → i < w.heap.size → w'.heap[i]? = w.heap[i]?
theorem Same.refl (n0 : Nat) (w : World) : Same n0 w w := ⟨Nat.le_refl _, fun _ _ _ => rfl⟩
theorem Same.trans {n0 : Nat} {a b c : World} (h : Same n0 a b) (k : Same n0 b c) : Same n0 a c :=
 ⟨Nat.le_trans h.1 k.1, fun i h0 hi => (k.2 i h0 (Nat.lt_of_lt_of_le hi h.1)).trans (h.2 i h0 hi)⟩
theorem Same.of_ext {n0 : Nat} {w w' : World} (e : Ext w w') : Same n0 w w' := ⟨e.size, fun i _ hi => Below.block e i hi⟩
theorem Same.of_grown {n0 : Nat} {w w' : World} {row : Option Nat} (h : w.grownBy w' row) (hr : ∀ k, row = some k → k < n0 ∨ w.heap.size ≤ k) : Same n0 w w' :=
 ⟨h.size, fun i h0 hi => h.block i hi (fun hh => by have := hr i hh.symm; omega)⟩
theorem Same.set {n0 : Nat} {w : World} (a : Addr) (u : Value) (h : a.block < n0 ∨ w.heap.size ≤ a.block) : Same n0 w (w.setCell a u) :=
 Same.of_grown (grown_set w a u) (fun k hk => by injection hk with hk; subst hk; exact h)
theorem Same.up {n0 n1 : Nat} {w w' : World} (h : Same n0 w w') (hn : n0 ≤ n1) : Same n1 w w' := ⟨h.1, fun i h1 hi => h.2 i (by omega) hi⟩
def RdB {α : Type} (f : α → Value) (X : Nat → Prop) (n0 : Nat) (w : World) (u : Value) (l : List α) : Prop :=
 ∃ A c, u = .slice A l.length c ∧ l.length ≤ c ∧ l.length ≤ 140737488351232 ∧ (0 < l.length → ∃ b off cs T fz, A = some ⟨b, off, none⟩ ∧ n0 ≤ b ∧ b < w.heap.size ∧ ¬ X b ∧ w.heap[b]? = some (.cells cs T fz) ∧ ∀ i (h : i < l.length), cs[off + i]? = some (f l[i]))
theorem RdB.same {α : Type} {f : α → Value} {X : Nat → Prop} {n0 : Nat} {w w' : World} {u : Value} {l : List α} (h : RdB f X n0 w u l) (hs : w.heap.size ≤ w'.heap.size) (hb : ∀ b, n0 ≤ b → b < w.heap.size → ¬ X b → w'.heap[b]? = w.heap[b]?) : RdB f X n0 w' u l := by
 obtain ⟨A, c, h1, h2, h2', h3⟩ := h
 refine ⟨A, c, h1, h2, h2', fun hp => ?_⟩
 obtain ⟨b, off, cs, T, fz, e1, e2, e3, e4, e5, e6⟩ := h3 hp
 exact ⟨b, off, cs, T, fz, e1, e2, by omega, e4, (hb b e2 e3 e4).trans e5, e6⟩
theorem RdB.rd {α : Type} {f : α → Value} {X : Nat → Prop} {n0 : Nat} {w : World} {u : Value} {l : List α} (h : RdB f X n0 w u l) : ∃ A c, u = .slice A l.length c ∧ Rd f w A l c := by
 obtain ⟨A, c, h1, h2, h2', h3⟩ := h
 refine ⟨A, c, h1, ⟨h2, by omega, fun hp => ?_⟩, h2'⟩
 obtain ⟨b, off, cs, T, fz, e1, e2, e3, e4, e5, e6⟩ := h3 hp
 exact ⟨b, off, e1, e3, fun w' e i hi => by
  have h5 : w'.heap[b]? = some (.cells cs T fz) := (Below.block e b e3).trans e5
  rw [cell_of_row w' b (off + i) cs T fz h5]
  exact e6 i hi⟩
theorem RdB.of_own {α : Type} {f : α → Value} {X : Nat → Prop} {n0 : Nat} {e : TypeId} {wb w : World} {u : Value} {l : List α} (h : OwnL f e wb w u l) (hl : l.length ≤ 140737488351232) (hn : ∀ b, u.ownBlock = some b → n0 ≤ b ∧ ¬ X b) : RdB f X n0 w u l := by
 rcases h.2 with ⟨rfl, h0⟩ | ⟨g, cap, cur, rfl, hb, hg, hnc, hcm, hcs, htake⟩
 ·exact ⟨none, 0, by rw [h0], by omega, hl, fun hp => by omega⟩
 ·obtain ⟨h1, h2⟩ := hn g rfl
  refine ⟨_, _, rfl, hnc, hl, fun hp => ⟨g, 0, cur, _, _, rfl, h1, (Array.getElem?_eq_some_iff.1 hg).1, h2, hg, fun i hi => ?_⟩⟩
  have h3 : (cur.toList.take (l.length * 1))[i]? = (l.map f)[i]? := by rw [htake]
  rw [List.getElem?_take, if_pos (by omega)] at h3
  rw [Nat.zero_add]
  simpa [hi] using h3
theorem RdB.tail {α : Type} {f : α → Value} {X : Nat → Prop} {n0 : Nat} {w : World} {b off c : Nat} {x : α} {l : List α} (h : RdB f X n0 w (.slice (some ⟨b, off, none⟩) (x :: l).length c) (x :: l)) : RdB f X n0 w (.slice (some ⟨b, off + 1, none⟩) l.length (c - 1)) l := by
 obtain ⟨A, c', h1, h2, h2', h3⟩ := h
 injection h1 with q1 _ q2
 subst q1; subst q2
 simp only [List.length_cons] at h2 h2'
 refine ⟨_, _, rfl, by omega, by omega, fun hp => ?_⟩
 obtain ⟨b', off', cs, T, fz, e1, e2, e3, e4, e5, e6⟩ := h3 (by simp)
 injection e1 with e1
 injection e1 with e1 e1' _
 subst e1; subst e1'
 refine ⟨b, off + 1, cs, T, fz, rfl, e2, e3, e4, e5, fun i hi => ?_⟩
 have := e6 (i + 1) (by simp; omega)
 rw [show off + 1 + i = off + (i + 1) by omega, this]
 simp
structure RuleB (X : Nat → Prop) (n0 : Nat) (w : World) (q : RV) : Prop where
 b : RdB vu8 X n0 w q.vb q.r.bytes
 n : RdB vstr X n0 w q.vn q.r.names
 t : RdB vint X n0 w q.vt q.r.tags
 k : RdB vint X n0 w q.vk q.r.kids
theorem RuleB.same {X : Nat → Prop} {n0 : Nat} {w w' : World} {q : RV} (h : RuleB X n0 w q) (hs : w.heap.size ≤ w'.heap.size) (hb : ∀ b, n0 ≤ b → b < w.heap.size → ¬ X b → w'.heap[b]? = w.heap[b]?) : RuleB X n0 w' q :=
 ⟨h.b.same hs hb, h.n.same hs hb, h.t.same hs hb, h.k.same hs hb⟩
structure KeepD (n0 : Nat) (w : World) (v : Value) (ds : List DRule) : Prop where
 out : ∃ A c, v = .slice A ds.length c ∧ ∀ w', Same n0 w w' → RdD w' A ds c
theorem KeepD.rd {n0 : Nat} {w : World} {v : Value} {ds : List DRule} (h : KeepD n0 w v ds) : ∃ A c, v = .slice A ds.length c ∧ RdD w A ds c := by
 obtain ⟨A, c, h1, h2⟩ := h.out
 exact ⟨A, c, h1, h2 w (Same.refl _ _)⟩
theorem KeepD.same {n0 : Nat} {w w' : World} {v : Value} {ds : List DRule} (h : KeepD n0 w v ds) (e : Same n0 w w') : KeepD n0 w' v ds := by
 obtain ⟨A, c, h1, h2⟩ := h.out
 exact ⟨A, c, h1, fun w'' e' => h2 w'' (e.trans e')⟩
structure RowD (X : Nat → Prop) (n0 : Nat) (wb w : World) (v : Value) (ps : List RV) : Prop where
 row : Own 51 8 wb w v ps.length (ps.flatMap RV.cells)
 each : ∀ q ∈ ps, RuleB X n0 w q
 len : ps.length ≤ 24
 blk : ∀ b, v.ownBlock = some b → n0 ≤ b ∧ X b
theorem RowD.of_own {X : Nat → Prop} {n0 : Nat} {wb w : World} {v : Value} {ps : List RV} (h : OwnD wb w v ps) (hs : SmD (rulesOf ps)) (hv : ∀ b, v.ownBlock = some b → n0 ≤ b ∧ X b) (hx : ∀ u ∈ ps.flatMap RV.vals, ∀ b, u.ownBlock = some b → n0 ≤ b ∧ ¬ X b) : RowD X n0 wb w v ps := by
 refine ⟨h.row, fun q hq => ?_, by have := hs.1; simpa [rulesOf] using this, hv⟩
 have h1 := h.each q hq
 have h2 := (hs.2 _ (List.mem_map_of_mem hq)).short
 have h3 : ∀ u ∈ q.vals, ∀ b, u.ownBlock = some b → n0 ≤ b ∧ ¬ X b := fun u hu => hx u (List.mem_flatMap.2 ⟨q, hq, hu⟩)
 exact ⟨RdB.of_own h1.b h2.1 (h3 _ (by simp [RV.vals])), RdB.of_own h1.n h2.2.1 (h3 _ (by simp [RV.vals])), RdB.of_own h1.t h2.2.2.1 (h3 _ (by simp [RV.vals])), RdB.of_own h1.k h2.2.2.2 (h3 _ (by simp [RV.vals]))⟩
theorem RowD.shape {X : Nat → Prop} {n0 : Nat} {wb w : World} {v : Value} {ps : List RV} (h : RowD X n0 wb w v ps) : ∃ A c, v = .slice A ps.length c := by
 rcases h.row.2 with ⟨rfl, hn⟩ | ⟨g, cap, _, rfl, _⟩
 ·exact ⟨none, 0, by rw [hn]⟩
 ·exact ⟨_, _, rfl⟩
theorem RowD.rd {X : Nat → Prop} {n0 : Nat} {wb w : World} {v : Value} {ps : List RV} (h : RowD X n0 wb w v ps) : ∃ A c, v = .slice A (rulesOf ps).length c ∧ RdD w A (rulesOf ps) c := by
 have hlen : (rulesOf ps).length = ps.length := by simp [rulesOf]
 have h24 := h.len
 rcases h.row.2 with ⟨rfl, h0⟩ | ⟨g, cap, cur, rfl, hb, hg, hnc, hcm, hcs, htake⟩
 ·exact ⟨none, 0, by rw [hlen, h0], by omega, by omega, fun hp => by omega⟩
 ·refine ⟨_, _, by rw [hlen], by omega, by omega, fun hp => ⟨g, 0, rfl, (Array.getElem?_eq_some_iff.1 hg).1, fun i hi => ?_⟩⟩
  have hi' : i < ps.length := by omega
  have hr : (rulesOf ps)[i] = ps[i].r := by simp [rulesOf]
  have hc : ∀ (w' : World), Ext w w' → ∀ j, j < 8 → w'.cell? ⟨g, i * 8 + j, none⟩ = ps[i].cells[j]? := by
   intro w' e j hj
   rw [heap_row hg e, ← cells_get ps i j hi' hj, ← htake, List.getElem?_take, if_pos (by omega)]
   simp
  have hB := h.each _ (List.getElem_mem hi')
  obtain ⟨Ab, cb, e1, r1⟩ := hB.b.rd
  obtain ⟨An, cn, e2, r2⟩ := hB.n.rd
  obtain ⟨At, ct, e3, r3⟩ := hB.t.rd
  obtain ⟨Ak, ck, e4, r4⟩ := hB.k.rd
  rw [hr]
  refine ⟨Ab, cb, An, cn, At, ct, Ak, ck, ⟨r1.1, r2.1, r3.1, r4.1⟩, ?_⟩
  rw [← e1, ← e2, ← e3, ← e4, Nat.zero_add]
  exact ⟨fun w' e => by have := hc w' e 0 (by omega); simpa [RV.cells] using this, fun w' e => by have := hc w' e 1 (by omega); simpa [RV.cells] using this, fun w' e => by have := hc w' e 2 (by omega); simpa [RV.cells] using this, fun w' e => by have := hc w' e 3 (by omega); simpa [RV.cells] using this,
   fun w' e => by have := hc w' e 4 (by omega); simpa [RV.cells] using this, fun w' e => by have := hc w' e 5 (by omega); simpa [RV.cells] using this, fun w' e => by have := hc w' e 6 (by omega); simpa [RV.cells] using this, fun w' e => by have := hc w' e 7 (by omega); simpa [RV.cells] using this⟩
theorem RowD.same {X : Nat → Prop} {n0 : Nat} {wb w w' : World} {v : Value} {ps : List RV} (h : RowD X n0 wb w v ps) (e : Same n0 w w') : RowD X n0 wb w' v ps := by
 refine ⟨⟨h.row.1, ?_⟩, fun q hq => (h.each q hq).same e.1 (fun b h0 h1 _ => e.2 b h0 h1), h.len, h.blk⟩
 rcases h.row.2 with h0 | ⟨g, cap, cur, rfl, hb, hg, r⟩
 ·exact .inl h0
 ·exact .inr ⟨g, cap, cur, rfl, hb, (e.2 g (h.blk g rfl).1 (Array.getElem?_eq_some_iff.1 hg).1).trans hg, r⟩
theorem RowD.keep {X : Nat → Prop} {n0 : Nat} {wb w : World} {v : Value} {ps : List RV} (h : RowD X n0 wb w v ps) : KeepD n0 w v (rulesOf ps) := by
 obtain ⟨A, c, h1, _⟩ := h.rd
 refine ⟨A, c, h1, fun w' e => ?_⟩
 obtain ⟨A', c', h2, h3⟩ := (h.same e).rd
 rw [h1] at h2
 injection h2 with q1 _ q2
 subst q1; subst q2
 exact h3
def XB (g R : Nat) (v : Value) (b : Nat) : Prop := b = g ∨ b = R ∨ v.ownBlock = some b
structure DR (wb w wr : World) (p : Nat) (A : Option Addr) (l : List UInt8) (c g : Nat) (v : Value) (ps : List RV) (R : Nat) : Prop where
 box : Box wr g #[v] 26
 row : Own 51 8 wb wr v ps.length (ps.flatMap RV.cells)
 each : ∀ q ∈ ps, RuleB (XB g R v) w.heap.size wr q
 len : ps.length ≤ 24
 blk : ∀ b, v.ownBlock = some b → w.heap.size ≤ b ∧ b ≠ g ∧ b ≠ p ∧ b ≠ R
 cur : Cur wb wr p A l c
 grow : w.grownBy wr (some p)
 gw : w.heap.size ≤ g
 gb : wb.heap.size ≤ g
 pw : p < w.heap.size
 res : Box wr R #[.slice none 0 0] 26
 gR : g ≠ R
 Rw : w.heap.size ≤ R
theorem DR.moved {wb w wr w' : World} {p : Nat} {A : Option Addr} {l : List UInt8} {c g : Nat} {v : Value} {ps : List RV} {R : Nat} (h : DR wb w wr p A l c g v ps R) (hC : Cur wb w' p A l c) (hg : wr.grownBy w' (some p)) : DR wb w w' p A l c g v ps R :=
 ⟨h.box.moved hg (some_ne (by have := h.gw; have := h.pw; omega)), h.row.keep hg (fun b hb hh => by injection hh with hh; exact (h.blk b hb).2.2.1 hh.symm), fun q hq => (h.each q hq).same hg.size (fun b h0 h1 _ => hg.block b h1 (fun hh => by injection hh with hh; have := h.pw; omega)), h.len, h.blk, hC, h.grow.trans hg, h.gw, h.gb, h.pw, h.res.moved hg (some_ne (by have := h.Rw; have := h.pw; omega)), h.gR, h.Rw⟩
theorem DR.ext {wb w wr w' : World} {p : Nat} {A : Option Addr} {l : List UInt8} {c g : Nat} {v : Value} {ps : List RV} {R : Nat} (h : DR wb w wr p A l c g v ps R) (e : Ext wr w') : DR wb w w' p A l c g v ps R :=
 h.moved (h.cur.ext e) (grown_ext e _)
theorem DR.cellr {wb w wr : World} {p : Nat} {A : Option Addr} {l : List UInt8} {c g b n cap : Nat} {ps : List RV} {R : Nat} (h : DR wb w wr p A l c g (.slice (some ⟨b, 0, none⟩) n cap) ps R) (k j : Nat) (hk : k < ps.length) (hj : j < 8) {q : RV} (hq : ps[k] = q) : wr.cell? ⟨b, k * 8 + j, none⟩ = q.cells[j]? ∧ wr.frozen? ⟨b, k * 8 + j, none⟩ = false := by
 subst hq
 have hn : n = ps.length := by
  rcases h.row.2 with ⟨hh, _⟩ | ⟨_, _, _, hh, _⟩
  ·cases hh
  ·injection hh
 subst hn
 have hrow := h.row
 have h0 := hrow.cellAt (k * 8 + j) (by omega)
 rw [h0, cells_get ps k j hk hj]
 exact ⟨rfl, hrow.frozenAt _⟩
theorem DR.put {wb w wr : World} {p : Nat} {A : Option Addr} {l : List UInt8} {c g b n cap : Nat} {ps : List RV} {R : Nat} (h : DR wb w wr p A l c g (.slice (some ⟨b, 0, none⟩) n cap) ps R) (k j : Nat) (hk : k < ps.length) (hj : j < 8) {q : RV} (hq : ps[k] = q) (u : Value) (p' : RV) (hc : p'.cells = q.cells.set j u) (hp' : RuleB (XB g R (.slice (some ⟨b, 0, none⟩) n cap)) w.heap.size wr p') :
 DR wb w (wr.setCell ⟨b, k * 8 + j, none⟩ u) p A l c g (.slice (some ⟨b, 0, none⟩) n cap) (ps.set k p') R := by
 subst hq
 have hn : n = ps.length := by
  rcases h.row.2 with ⟨hh, _⟩ | ⟨_, _, _, hh, _⟩
  ·cases hh
  ·injection hh
 subst hn
 have hb := h.blk b rfl
 have hblk := World.ownsRow.lt h.row b rfl
 have hrow := (h.row.stored (k * 8 + j) u).1
 rw [cells_put ps k j hk u p' hj hc] at hrow
 have hst : ∀ q, RuleB (XB g R (.slice (some ⟨b, 0, none⟩) ps.length cap)) w.heap.size wr q → RuleB (XB g R (.slice (some ⟨b, 0, none⟩) ps.length cap)) w.heap.size (wr.setCell ⟨b, k * 8 + j, none⟩ u) q := fun q hq =>
  hq.same (by simp) (fun b' _ _ hx => heap_setCell_other wr ⟨b, k * 8 + j, none⟩ b' u (fun hh => hx (.inr (.inr (congrArg some hh.symm)))))
 refine ⟨h.box.other hb.2.1.symm _ u, by rw [List.length_set]; exact hrow, fun q hq => ?_, by rw [List.length_set]; exact h.len, h.blk, h.cur.set (a := ⟨b, k * 8 + j, none⟩) hb.2.2.1 hblk.1 u, grown_new (a := ⟨b, k * 8 + j, none⟩) h.grow hb.1 u, h.gw, h.gb, h.pw, h.res.other hb.2.2.2.symm _ u, h.gR, h.Rw⟩
 rcases List.mem_or_eq_of_mem_set hq with h1 | rfl
 ·exact hst q (h.each q h1)
 ·exact hst q hp'
theorem DR.snoc {wb w W w4 : World} {p : Nat} {A : Option Addr} {l : List UInt8} {c g : Nat} {v v' : Value} {ps : List RV} {R : Nat} {q : RV} (h : DR wb w W p A l c g v ps R) (hq : RuleB (XB g R v) w.heap.size W q) (hl : ps.length < 24)
 (ho4 : Own 51 8 wb w4 v' (ps.length + 1) (ps.flatMap RV.cells ++ q.cells)) (he : Ext wb w4) (hg4 : W.grownBy w4 v.ownBlock) (hv : v'.ownBlock = v.ownBlock ∨ v'.ownBlock = some W.heap.size) :
 (w4.cell? ⟨g, 0, none⟩ = some v ∧ w4.frozen? ⟨g, 0, none⟩ = false) ∧ DR wb w (w4.setCell ⟨g, 0, none⟩ v') p A l c g v' (ps ++ [q]) R := by
 have hB : Box w4 g #[v] 26 := Box.moved h.box hg4 (fun hh => (h.blk g hh).2.1 rfl)
 have hR : Box w4 R #[.slice none 0 0] 26 := Box.moved h.res hg4 (fun hh => (h.blk R hh).2.2.2 rfl)
 have hlt := h.box.lt; have hlR := h.res.lt; have hlp := h.cur.lt; have hgs := h.grow.size
 have hvb : ∀ b, v'.ownBlock = some b → w.heap.size ≤ b ∧ b ≠ g ∧ b ≠ p ∧ b ≠ R := fun b hb => by
  rcases hv with hv | hv
  ·exact h.blk b (hv.symm.trans hb)
  ·rw [hv] at hb; injection hb with hb
   exact ⟨by omega, by omega, by omega, by omega⟩
 have hX : ∀ b, b < W.heap.size → ¬ XB g R v b → ¬ XB g R v' b := fun b hb hx => by
  rintro (h1 | h1 | h1)
  ·exact hx (.inl h1)
  ·exact hx (.inr (.inl h1))
  ·rcases hv with hv | hv
   ·exact hx (.inr (.inr (hv.symm.trans h1)))
   ·rw [hv] at h1; injection h1 with h1; omega
 have up : ∀ {α : Type} {f : α → Value} {u : Value} {l : List α}, RdB f (XB g R v) w.heap.size W u l → RdB f (XB g R v') w.heap.size (w4.setCell ⟨g, 0, none⟩ v') u l := by
  intro α f u l hu
  obtain ⟨A', c', h1, h2, h2', h3⟩ := hu
  refine ⟨A', c', h1, h2, h2', fun hp => ?_⟩
  obtain ⟨b, off, cs, T, fz, e1, e2, e3, e4, e5, e6⟩ := h3 hp
  refine ⟨b, off, cs, T, fz, e1, e2, by have := hg4.size; simp; omega, hX b e3 e4, ?_, e6⟩
  rw [heap_setCell_other w4 ⟨g, 0, none⟩ b v' (fun hh => e4 (.inl hh))]
  exact (hg4.block b e3 (fun hh => e4 (.inr (.inr hh.symm)))).trans e5
 refine ⟨⟨hB.cell 0, hB.free 0⟩, hB.set 0 v', ?_, fun r hr => ?_, by simp; omega, hvb, (Cur.kept h.cur hg4 (fun hh => (h.blk p hh).2.2.1 rfl) he).set (a := ⟨g, 0, none⟩) (by have := h.gw; have := h.pw; show g ≠ p; omega) h.gb v', grown_new (a := ⟨g, 0, none⟩) (grown_own h.grow (fun b hh => (h.blk b hh).1) hg4) h.gw v', h.gw, h.gb, h.pw, hR.other (fun hh => h.gR hh.symm) 0 v', h.gR, h.Rw⟩
 ·rw [List.length_append, List.flatMap_append, List.flatMap_cons, List.flatMap_nil, List.append_nil]
  exact ho4.keep (grown_set w4 ⟨g, 0, none⟩ v') (fun b hb hh => by injection hh with hh; exact (hvb b hb).2.1 hh.symm)
 ·rcases List.mem_append.1 hr with hr | hr
  ·have := h.each r hr
   exact ⟨up this.b, up this.n, up this.t, up this.k⟩
  ·rw [List.mem_singleton.1 hr]
   exact ⟨up hq.b, up hq.n, up hq.t, up hq.k⟩
theorem DR.shape {wb w wr : World} {p : Nat} {A : Option Addr} {l : List UInt8} {c g : Nat} {v : Value} {ps : List RV} {R : Nat} (h : DR wb w wr p A l c g v ps R) : ∃ A' c', v = .slice A' ps.length c' := by
 rcases h.row.2 with ⟨rfl, hn⟩ | ⟨g, cap, _, rfl, _⟩
 ·exact ⟨none, 0, by rw [hn]⟩
 ·exact ⟨_, _, rfl⟩
theorem DR.finish {wb w wr : World} {p : Nat} {A : Option Addr} {l : List UInt8} {c g : Nat} {v : Value} {ps : List RV} {R : Nat} (h : DR wb w wr p A l c g v ps R) (hbw : wb.heap.size ≤ w.heap.size) :
 KeepD w.heap.size (wr.setCell ⟨R, 0, none⟩ v) v (rulesOf ps) ∧ Cur wb (wr.setCell ⟨R, 0, none⟩ v) p A l c ∧ w.grownBy (wr.setCell ⟨R, 0, none⟩ v) (some p) ∧ (wr.setCell ⟨R, 0, none⟩ v).cell? ⟨R, 0, none⟩ = some v := by
 have hR : Box (wr.setCell ⟨R, 0, none⟩ v) R (#[.slice none 0 0].setIfInBounds 0 v) 26 := h.res.set 0 v
 refine ⟨?_, h.cur.set (a := ⟨R, 0, none⟩) (by have := h.Rw; have := h.pw; show R ≠ p; omega) (by have := h.Rw; show wb.heap.size ≤ R; omega) v, grown_new (a := ⟨R, 0, none⟩) h.grow h.Rw v, by simpa using hR.cell 0⟩
 have hrow : RowD (XB g R v) w.heap.size wb (wr.setCell ⟨R, 0, none⟩ v) v ps :=
  ⟨h.row.keep (grown_set wr ⟨R, 0, none⟩ v) (fun b hb hh => by injection hh with hh; exact (h.blk b hb).2.2.2 hh.symm), fun q hq => (h.each q hq).same (by simp) (fun b _ _ hx => heap_setCell_other wr ⟨R, 0, none⟩ b v (fun hh => hx (.inr (.inl hh)))), h.len, fun b hb => ⟨(h.blk b hb).1, .inr (.inr hb)⟩⟩
 exact hrow.keep
theorem MadeD.tags {ds : List DRule} (h : MadeD ds) : ∀ i (hi : i < ds.length), ds[i].kind = 7 → 0 < ds[i].tags.length := by
 intro i hi h7
 have hk := (h i hi).ok
 unfold kindOk at hk
 rw [if_neg (by omega), if_neg (by omega), if_neg (by omega), if_neg (by omega), if_neg (by omega), if_neg (by omega), if_pos h7] at hk
 unfold choOk at hk
 simp only [Bool.and_eq_true, between_iff] at hk
 omega
theorem MadeD.kinds {ds : List DRule} (h : MadeD ds) : ∀ i (hi : i < ds.length), 1 ≤ ds[i].kind ∧ ds[i].kind ≤ 10 := by
 intro i hi
 have := (h i hi).ok
 unfold kindOk at this
 by_cases h1 : ds[i].kind = 1; · omega
 by_cases h2 : ds[i].kind = 2; · omega
 by_cases h3 : ds[i].kind = 3; · omega
 by_cases h4 : ds[i].kind = 4; · omega
 by_cases h5 : ds[i].kind = 5; · omega
 by_cases h6 : ds[i].kind = 6; · omega
 by_cases h7 : ds[i].kind = 7; · omega
 by_cases h8 : ds[i].kind = 8; · omega
 by_cases h9 : ds[i].kind = 9; · omega
 by_cases h10 : ds[i].kind = 10; · omega
 simp [h1, h2, h3, h4, h5, h6, h7, h8, h9, h10] at this
theorem MadeD.seq {ds : List DRule} (h : MadeD ds) : ∀ i (hi : i < ds.length), ds[i].kind = 6 → ds[i].kids.length = ds[i].names.length := by
 intro i hi h6
 have hk := (h i hi).ok
 unfold kindOk at hk
 rw [if_neg (by omega), if_neg (by omega), if_neg (by omega), if_neg (by omega), if_neg (by omega), if_pos h6] at hk
 unfold seqOk at hk
 simp only [Bool.and_eq_true, beq_iff_eq] at hk
 exact hk.1.1.2
structure MidR (r : DRule) : Prop where
 sm : SmR r
 lens : r.bytes.length ≤ 10 ∧ r.names.length ≤ 10 ∧ r.tags.length ≤ 10 ∧ r.kids.length ≤ 10
 seq : r.kind = 6 → r.kids.length = r.names.length
 size : -100000 ≤ r.size ∧ r.size ≤ 100000 ∧ ∀ z ∈ r.kids, -150000 ≤ z ∧ z ≤ 150000
theorem WideR.mid {x y : DRule} {j : Nat} (h : WideR x y j) (hs : SmallR x) (hk : -100 ≤ x.kind ∧ x.kind ≤ 100) (hj : j ≤ 24) (h6 : x.kind = 6 → x.kids.length = x.names.length) : MidR y := by
 refine ⟨h.sm hs hk hj, ?_, ?_, ?_⟩
 ·have := hs.lens
  rcases h with rfl | ⟨_, _, z, k, hz, hkb, rfl⟩
  ·omega
  ·simp only [List.length_append, List.length_singleton]; omega
 ·rcases h with rfl | ⟨h7, _, z, k, hz, hkb, rfl⟩
  ·exact h6
  ·intro hh; dsimp only at hh; omega
 ·have hi := hs.ints
  rcases h with rfl | ⟨_, _, z, k, hz, hkb, rfl⟩
  ·exact ⟨hi.1.1, hi.1.2, fun z hz => by have := hi.2.2 z hz; omega⟩
  ·refine ⟨hi.1.1, hi.1.2, fun u hu => ?_⟩
   have hk2 : (k : Int) ≤ 24 := by unfold below at hkb; split at hkb <;> omega
   rcases List.mem_append.1 hu with h1 | h1
   ·have := hi.2.2 u h1; omega
   ·rw [List.mem_singleton.1 h1]; omega
def MidD (ds : List DRule) : Prop := ds.length ≤ 12 ∧ ∀ r ∈ ds, MidR r
theorem MidD.sm {ds : List DRule} (h : MidD ds) : SmD ds := ⟨by have := h.1; omega, fun r hr => (h.2 r hr).sm⟩
theorem WI.mid {ds : List DRule} {ps : List RV} (h : WI ds ps ds.length) (hs : SmallD ds) (hM : MadeD ds) (hl : ds.length ≤ 12) : MidD (rulesOf ps) := by
 refine ⟨by have := h.len; simp [rulesOf]; omega, fun r hr => ?_⟩
 obtain ⟨q, hq, rfl⟩ := List.mem_map.1 hr
 obtain ⟨i, hi, rfl⟩ := List.getElem_of_mem hq
 have hi' : i < ds.length := by have := h.len; omega
 exact (h.wid i hi hi' hi').mid (hs.2 _ (List.getElem_mem hi')) (by have := hM.kinds i hi'; omega) (by omega) (hM.seq i hi')
theorem KeepD.low {n0 n1 : Nat} {w : World} {v : Value} {ds : List DRule} (h : KeepD n1 w v ds) (hn : n0 ≤ n1) : KeepD n0 w v ds := by
 obtain ⟨A, c, h1, h2⟩ := h.out
 exact ⟨A, c, h1, fun w' e => h2 w' (e.up hn)⟩
theorem OwnD.keepD {wb w : World} {v : Value} {ps : List RV} {n0 : Nat} (h : OwnD wb w v ps) (hs : SmD (rulesOf ps)) (hn : ∀ u ∈ v :: ps.flatMap RV.vals, ∀ b, u.ownBlock = some b → n0 ≤ b) : KeepD n0 w v (rulesOf ps) := by
 have hfar := h.far
 unfold Far at hfar
 rw [List.pairwise_cons] at hfar
 exact (RowD.of_own (X := fun b => v.ownBlock = some b) h hs (fun b hb => ⟨hn v (List.mem_cons_self ..) b hb, hb⟩) (fun u hu b hb => ⟨hn u (List.mem_cons_of_mem _ hu) b hb, fun hx => hfar.1 u hu b hx hb⟩)).keep
theorem pair_fin {wb w W : World} {p : Nat} {A : Option Addr} {l : List UInt8} {c : Nat} {u1 u2 : Value} {d1 d2 : List DRule} (hC : Cur wb W p A l c) (hG : w.grownBy W (some p)) (K1 : KeepD (w.heap.size + 2) W u1 d1) (K2 : KeepD (w.heap.size + 2) W u2 d2)
 (B1 : Box W w.heap.size #[.slice none 0 0] 26) (B2 : Box W (w.heap.size + 1) #[.slice none 0 0] 26) (hbw : wb.heap.size ≤ w.heap.size) (hp : p < w.heap.size) :
 KeepD w.heap.size ((W.setCell ⟨w.heap.size, 0, none⟩ u1).setCell ⟨w.heap.size + 1, 0, none⟩ u2) u1 d1 ∧ KeepD w.heap.size ((W.setCell ⟨w.heap.size, 0, none⟩ u1).setCell ⟨w.heap.size + 1, 0, none⟩ u2) u2 d2 ∧
 Cur wb ((W.setCell ⟨w.heap.size, 0, none⟩ u1).setCell ⟨w.heap.size + 1, 0, none⟩ u2) p A l c ∧ w.grownBy ((W.setCell ⟨w.heap.size, 0, none⟩ u1).setCell ⟨w.heap.size + 1, 0, none⟩ u2) (some p) ∧
 ((W.setCell ⟨w.heap.size, 0, none⟩ u1).setCell ⟨w.heap.size + 1, 0, none⟩ u2).cell? ⟨w.heap.size, 0, none⟩ = some u1 ∧ ((W.setCell ⟨w.heap.size, 0, none⟩ u1).setCell ⟨w.heap.size + 1, 0, none⟩ u2).cell? ⟨w.heap.size + 1, 0, none⟩ = some u2 := by
 have s1 : Same (w.heap.size + 2) W (W.setCell ⟨w.heap.size, 0, none⟩ u1) := Same.set _ _ (.inl (by show w.heap.size < _; omega))
 have s2 : Same (w.heap.size + 2) (W.setCell ⟨w.heap.size, 0, none⟩ u1) ((W.setCell ⟨w.heap.size, 0, none⟩ u1).setCell ⟨w.heap.size + 1, 0, none⟩ u2) := Same.set _ _ (.inl (by show w.heap.size + 1 < _; omega))
 have b1 := (B1.set 0 u1).other (g' := w.heap.size + 1) (by omega) 0 u2
 have b2 := (B2.other (g' := w.heap.size) (by omega) 0 u1).set 0 u2
 exact ⟨(K1.same (s1.trans s2)).low (by omega), (K2.same (s1.trans s2)).low (by omega), (hC.set (a := ⟨w.heap.size, 0, none⟩) (by show w.heap.size ≠ p; omega) hbw u1).set (a := ⟨w.heap.size + 1, 0, none⟩) (by show w.heap.size + 1 ≠ p; omega) (by show wb.heap.size ≤ w.heap.size + 1; omega) u2,
  grown_new (a := ⟨w.heap.size + 1, 0, none⟩) (grown_new (a := ⟨w.heap.size, 0, none⟩) hG (Nat.le_refl _) u1) (by show w.heap.size ≤ w.heap.size + 1; omega) u2, by simpa using b1.cell 0, by simpa using b2.cell 0⟩
theorem Cur.lower' {wb0 wb w : World} {p : Nat} {A : Option Addr} {l : List UInt8} {c : Nat} (h : Cur wb w p A l c) (e : Ext wb0 wb) : Cur wb0 w p A l c := ⟨Nat.le_trans e.size h.1, e.trans h.2.1, h.2.2⟩
theorem SmD.len {ps : List RV} (h : SmD (rulesOf ps)) : ps.length ≤ 24 := by have := h.1; simpa [rulesOf] using this
theorem OwnD.nmAt {w0 w : World} {b n c : Nat} {ps : List RV} (h : OwnD w0 w (.slice (some ⟨b, 0, none⟩) n c) ps) : ∀ x (hx : x < ps.length), w.cell? ⟨b, x * 8, none⟩ = some (.string ps[x].r.nm) := by
 intro x hx
 have hn : n = ps.length := by obtain ⟨_, _, hh⟩ := h.shape; injection hh
 subst hn
 have h0 := h.row.cellAt (x * 8 + 0) (by omega)
 rw [Nat.add_zero] at h0
 rw [h0]
 have := cells_get ps x 0 hx (by omega)
 rw [Nat.add_zero] at this
 rw [this]; simp [RV.cells]
structure LN (w w1 w2 wr : World) (p : Nat) (A : Option Addr) (l : List UInt8) (c : Nat) (v1 v2 : Value) (d1 d2 : List DRule) : Prop where
 ka : KeepD w1.heap.size wr v1 d1
 kb : KeepD w1.heap.size wr v2 d2
 ba : Box wr w2.heap.size #[v1] 26
 bb : Box wr (w2.heap.size + 1) #[v2] 26
 b1 : Box wr w.heap.size #[.slice none 0 0] 26
 b2 : Box wr (w.heap.size + 1) #[.slice none 0 0] 26
 cur : Cur w wr p A l c
 ext : Ext w wr
 hp : w.heap.size + 2 ≤ p ∧ p < w1.heap.size ∧ w1.heap.size ≤ w2.heap.size
theorem LN.moved {w w1 w2 wr w' : World} {p : Nat} {A : Option Addr} {l : List UInt8} {c : Nat} {v1 v2 : Value} {d1 d2 : List DRule} (h : LN w w1 w2 wr p A l c v1 v2 d1 d2) (hC : Cur w w' p A l c) (hg : wr.grownBy w' (some p)) : LN w w1 w2 w' p A l c v1 v2 d1 d2 := by
 have hp := h.hp
 have hs : Same w1.heap.size wr w' := Same.of_grown hg (fun k hk => by injection hk with hk; omega)
 exact ⟨h.ka.same hs, h.kb.same hs, h.ba.moved hg (some_ne (by omega)), h.bb.moved hg (some_ne (by omega)), h.b1.moved hg (some_ne (by omega)), h.b2.moved hg (some_ne (by omega)), hC, h.ext.grown hg (fun k hk => by injection hk with hk; omega), hp⟩
theorem lost_fin {w w1 w2 wr : World} {p : Nat} {A : Option Addr} {l : List UInt8} {c : Nat} {v1 v2 : Value} {d1 d2 : List DRule} (h : LN w w1 w2 wr p A l c v1 v2 d1 d2) :
 KeepD w.heap.size ((wr.setCell ⟨w.heap.size, 0, none⟩ v1).setCell ⟨w.heap.size + 1, 0, none⟩ v2).drew v1 d1 ∧ KeepD w.heap.size ((wr.setCell ⟨w.heap.size, 0, none⟩ v1).setCell ⟨w.heap.size + 1, 0, none⟩ v2).drew v2 d2 ∧
 Ext w ((wr.setCell ⟨w.heap.size, 0, none⟩ v1).setCell ⟨w.heap.size + 1, 0, none⟩ v2).drew ∧
 ((wr.setCell ⟨w.heap.size, 0, none⟩ v1).setCell ⟨w.heap.size + 1, 0, none⟩ v2).cell? ⟨w.heap.size, 0, none⟩ = some v1 ∧ ((wr.setCell ⟨w.heap.size, 0, none⟩ v1).setCell ⟨w.heap.size + 1, 0, none⟩ v2).cell? ⟨w.heap.size + 1, 0, none⟩ = some v2 := by
 have hp := h.hp
 have s1 : Same w1.heap.size wr (wr.setCell ⟨w.heap.size, 0, none⟩ v1) := Same.set _ _ (.inl (by show w.heap.size < _; omega))
 have s2 : Same w1.heap.size (wr.setCell ⟨w.heap.size, 0, none⟩ v1) ((wr.setCell ⟨w.heap.size, 0, none⟩ v1).setCell ⟨w.heap.size + 1, 0, none⟩ v2) := Same.set _ _ (.inl (by show w.heap.size + 1 < _; omega))
 have s3 := (s1.trans s2).trans (Same.of_ext (Ext_drew (Ext.refl _)))
 have b1 := (h.b1.set 0 v1).other (g' := w.heap.size + 1) (by omega) 0 v2
 have b2 := (h.b2.other (g' := w.heap.size) (by omega) 0 v1).set 0 v2
 exact ⟨(h.ka.same s3).low (by omega), (h.kb.same s3).low (by omega), Ext_drew ((h.ext.setCell (p := ⟨w.heap.size, 0, none⟩) (Nat.le_refl _) v1).setCell (p := ⟨w.heap.size + 1, 0, none⟩) (by show w.heap.size ≤ w.heap.size + 1; omega) v2), by simpa using b1.cell 0, by simpa using b2.cell 0⟩
def at0 (l : List Int) (i : Nat) : Int := l.getD i 0
def merged (a b : List Int) : List Int := (List.range (max a.length b.length)).map fun i => wrap64 (at0 a i + at0 b i)
def eqNm (a b : ByteArray) : Bool := a.toList == b.toList
def eqNms (l l' : List ByteArray) : Bool := l.map ByteArray.toList == l'.map ByteArray.toList
def eqR (r q : DRule) : Bool := r.nm.toList == q.nm.toList && r.kind == q.kind && r.size == q.size && r.little == q.little && r.bytes == q.bytes && eqNms r.names q.names && r.tags == q.tags && r.kids == q.kids
def eqAll {α : Type} (f : α → α → Bool) : List α → List α → Bool
 | [], [] => true
 | a :: s, b :: t => f a b && eqAll f s t
 | _, _ => false
def eqD (s t : List DRule) : Bool := eqAll eqR s t
def eqG (s t : List (List DRule)) : Bool := eqAll eqD s t
theorem eqNms_refl (l : List ByteArray) : eqNms l l = true := by simp [eqNms]
theorem eqNms_take {l l' : List ByteArray} {k : Nat} (h1 : k < l.length) (h2 : k < l'.length) (h : (l.take k).map ByteArray.toList = (l'.take k).map ByteArray.toList) (e : (l[k].toList == l'[k].toList) = true) : (l.take (k+1)).map ByteArray.toList = (l'.take (k+1)).map ByteArray.toList := by
 rw [List.take_succ_eq_append_getElem h1, List.take_succ_eq_append_getElem h2, List.map_append, List.map_append, h]
 simp at e
 simp [e]
theorem eqNms_no {l l' : List ByteArray} {k : Nat} (h1 : k < l.length) (h2 : k < l'.length) (e : (l[k].toList == l'[k].toList) = false) : eqNms l l' = false := by
 unfold eqNms
 rw [beq_eq_false_iff_ne]
 intro h
 have h3 : (l.map ByteArray.toList)[k]? = (l'.map ByteArray.toList)[k]? := by rw [h]
 simp [h1, h2] at h3
 simp [h3] at e
theorem sameTexts_c (A A' : Option Addr) (l l' : List ByteArray) (c c' : Nat) (w : World) (h : Rd0 vstr w A l c) (h' : Rd0 vstr w A' l' c') :
 Gives Tryz.prog 15 #[.slice A l.length c, .slice A' l'.length c'] w (.bool (eqNms l l')) := by
 have hl := h.len; have hl' := h'.len
 by_cases hn : l.length = l'.length
 ·have hb1 : ((l.length : Int) != (l'.length : Int)) = false := by simp [hn]
  have H := Lib.hid hn; clear hn
  go_enter Tryz.func15, Tryz.ntmps15
  go_wp2
  go_loopw [5, 4] (fun i v wr => ∃ k : Nat, k ≤ l.length ∧ i = .int .i64 k ∧ Hid ((l.take k).map ByteArray.toList = (l'.take k).map ByteArray.toList) ∧ Ext w wr) (fun i _ _ => l.length - (intOf i).toNat)
  case atStart => exact ⟨0, by omega, rfl, by simp [Hid], Ext.refl _⟩
  case round =>
   obtain ⟨k, hk, rfl, ht, he⟩ := hrel
   by_cases hlt : k < l.length
   ·have hlt' : k < l'.length := by have := H.out; omega
    obtain ⟨b, off, rfl, hb, hc⟩ := h.at k hlt
    obtain ⟨b', off', rfl, hb', hc'⟩ := h'.at k hlt'
    clear h h'
    go_wp2
    refine wp_region_quiet_below (by kernel_rfl) (by kernel_rfl) ?_
    repeat (go_big_quiet_step (fail))
    refine wpQuiet_nil ?_
    rintro _ ⟨⟨nq, osq⟩, rfl⟩
    go_wp2
    ·have hne : (l[k].toList != l'[k].toList) = true := by assumption
     go_ret
     refine ⟨ret_bool ?_, Ext_regrown _ _ he⟩
     exact (eqNms_no hlt hlt' (by simpa using hne)).symm
    ·have hne : (l[k].toList != l'[k].toList) = false := by assumption
     go_roundw
     case rel => exact ⟨k+1, by omega, by go_num, eqNms_take hlt hlt' ht.out (by simpa using hne), Ext_regrown _ _ he⟩
     case measure => simp [intOf]; omega
   ·go_wp2
    go_ret
    refine ⟨ret_bool ?_, he⟩
    have ht := ht.out; have H := H.out
    rw [List.take_of_length_le (by omega), List.take_of_length_le (by omega)] at ht
    simp [eqNms, ht]
 ·have hb1 : ((l.length : Int) != (l'.length : Int)) = true := by simp; omega
  go_enter Tryz.func15, Tryz.ntmps15
  go_wp2
  go_ret
  refine ⟨ret_bool ?_, Ext.refl _⟩
  symm; unfold eqNms; rw [beq_eq_false_iff_ne]; intro h2; exact hn (by have := congrArg List.length h2; simpa using this)
theorem l4Texts_c (A A' : Option Addr) (l l' : List ByteArray) (c c' : Nat) (w : World) (h : Rd0 vstr w A l c) (h' : Rd0 vstr w A' l' c') :
 Gives Tryz.prog 59 #[.slice A l.length c, .slice A' l'.length c'] w (.bool (eqNms l l')) := by
 have hl := h.len; have hl' := h'.len
 by_cases hn : l.length = l'.length
 ·have hb1 : ((l.length : Int) != (l'.length : Int)) = false := by simp [hn]
  have H := Lib.hid hn; clear hn
  go_enter Tryz.func59, Tryz.ntmps59
  go_wp2
  go_loopw [5, 4] (fun i v wr => ∃ k : Nat, k ≤ l.length ∧ i = .int .i64 k ∧ Hid ((l.take k).map ByteArray.toList = (l'.take k).map ByteArray.toList) ∧ Ext w wr) (fun i _ _ => l.length - (intOf i).toNat)
  case atStart => exact ⟨0, by omega, rfl, by simp [Hid], Ext.refl _⟩
  case round =>
   obtain ⟨k, hk, rfl, ht, he⟩ := hrel
   by_cases hlt : k < l.length
   ·have hlt' : k < l'.length := by have := H.out; omega
    obtain ⟨b, off, rfl, hb, hc⟩ := h.at k hlt
    obtain ⟨b', off', rfl, hb', hc'⟩ := h'.at k hlt'
    clear h h'
    go_wp2
    refine wp_region_quiet_below (by kernel_rfl) (by kernel_rfl) ?_
    repeat (go_big_quiet_step (fail))
    refine wpQuiet_nil ?_
    rintro _ ⟨⟨nq, osq⟩, rfl⟩
    go_wp2
    ·have hne : (l[k].toList != l'[k].toList) = true := by assumption
     go_ret
     refine ⟨ret_bool ?_, Ext_regrown _ _ he⟩
     exact (eqNms_no hlt hlt' (by simpa using hne)).symm
    ·have hne : (l[k].toList != l'[k].toList) = false := by assumption
     go_roundw
     case rel => exact ⟨k+1, by omega, by go_num, eqNms_take hlt hlt' ht.out (by simpa using hne), Ext_regrown _ _ he⟩
     case measure => simp [intOf]; omega
   ·go_wp2
    go_ret
    refine ⟨ret_bool ?_, he⟩
    have ht := ht.out; have H := H.out
    rw [List.take_of_length_le (by omega), List.take_of_length_le (by omega)] at ht
    simp [eqNms, ht]
 ·have hb1 : ((l.length : Int) != (l'.length : Int)) = true := by simp; omega
  go_enter Tryz.func59, Tryz.ntmps59
  go_wp2
  go_ret
  refine ⟨ret_bool ?_, Ext.refl _⟩
  symm; unfold eqNms; rw [beq_eq_false_iff_ne]; intro h2; exact hn (by have := congrArg List.length h2; simpa using this)
theorem iEqTexts_c (A A' : Option Addr) (l l' : List ByteArray) (c c' : Nat) (w : World) (h : Rd0 vstr w A l c) (h' : Rd0 vstr w A' l' c') :
 Gives Tryz.prog 125 #[.slice A l.length c, .slice A' l'.length c'] w (.bool (eqNms l l')) := by
 have hl := h.len; have hl' := h'.len
 by_cases hn : l.length = l'.length
 ·have hb1 : ((l.length : Int) != (l'.length : Int)) = false := by simp [hn]
  have H := Lib.hid hn; clear hn
  go_enter Tryz.func125, Tryz.ntmps125
  go_wp2
  go_loopw [13] (fun i wr => ∃ k : Nat, k ≤ l.length ∧ i = .int .i64 k ∧ Hid ((l.take k).map ByteArray.toList = (l'.take k).map ByteArray.toList) ∧ Ext w wr) (fun i _ => l.length - (intOf i).toNat)
  case atStart => exact ⟨0, by omega, rfl, by simp [Hid], Ext.refl _⟩
  case round =>
   obtain ⟨k, hk, rfl, ht, he⟩ := hrel
   by_cases hlt : k < l.length
   ·have hlt' : k < l'.length := by have := H.out; omega
    obtain ⟨b, off, rfl, hb, hc⟩ := h.at k hlt
    obtain ⟨b', off', rfl, hb', hc'⟩ := h'.at k hlt'
    clear h h'
    go_wp2
    refine wp_region_quiet_below (by kernel_rfl) (by kernel_rfl) ?_
    repeat (go_big_quiet_step (fail))
    refine wpQuiet_nil ?_
    rintro _ ⟨⟨nq, osq⟩, rfl⟩
    go_wp2
    ·have hne : (l[k].toList != l'[k].toList) = true := by assumption
     go_ret
     refine ⟨ret_bool ?_, Ext_regrown _ _ he⟩
     exact (eqNms_no hlt hlt' (by simpa using hne)).symm
    ·have hne : (l[k].toList != l'[k].toList) = false := by assumption
     go_roundw
     case rel => exact ⟨k+1, by omega, by go_num, eqNms_take hlt hlt' ht.out (by simpa using hne), Ext_regrown _ _ he⟩
     case measure => simp [intOf]; omega
   ·go_wp2
    go_ret
    refine ⟨ret_bool ?_, he⟩
    have ht := ht.out; have H := H.out
    rw [List.take_of_length_le (by omega), List.take_of_length_le (by omega)] at ht
    simp [eqNms, ht]
 ·have hb1 : ((l.length : Int) != (l'.length : Int)) = true := by simp; omega
  go_enter Tryz.func125, Tryz.ntmps125
  go_wp2
  go_ret
  refine ⟨ret_bool ?_, Ext.refl _⟩
  symm; unfold eqNms; rw [beq_eq_false_iff_ne]; intro h2; exact hn (by have := congrArg List.length h2; simpa using this)
def ShortD (ds : List DRule) : Prop := ∀ r ∈ ds, ShortR r
def ShortG (gs : List (List DRule)) : Prop := ∀ d ∈ gs, ShortD d
theorem shortD_of {ds : List DRule} (h : szD ds ≤ 1048576) : ShortD ds := fun _ hr => (szRl_short (szD_mem h hr)).1
theorem rulesOf_len (ps : List RV) : (rulesOf ps).length = ps.length := by simp [rulesOf]
theorem OwnD.short {ps : List RV} (h : szD (rulesOf ps) ≤ 1048576) : ps.length ≤ 9223372036854775807 ∧ ∀ p ∈ ps, ShortR p.r := by
 refine ⟨by unfold szD at h; rw [rulesOf_len] at h; omega, fun p hp => ?_⟩
 exact shortD_of h p.r (List.mem_map_of_mem hp)
def mkT (k : Nat) (i : Nat) : Value := .string (markT (k + i))
def mlen (r : DRule) : Nat := 4 + r.bytes.length + r.names.length + r.tags.length + r.kids.length
def mkCells (m : Nat × RV) : List Value := [.string (markT m.1), .int .i64 ((m.1 : Int) + 1), .int .i64 ((m.1 : Int) + 2), .bool (((m.1 : Int) + 3) % 3 == 0), m.2.vb, m.2.vn, m.2.vt, m.2.vk]
def msR : Nat → List RV → List (Nat × RV)
 | _, [] => []
 | k, p :: t => (k, p) :: msR (k + mlen p.r) t
def kEndR : Nat → List RV → Nat
 | k, [] => k
 | k, p :: t => kEndR (k + mlen p.r) t
structure RuleMarked (w0 w : World) (k : Nat) (p : RV) : Prop where
 b : Own 5 1 w0 w p.vb p.r.bytes.length ((List.range p.r.bytes.length).map (mk8 ((k : Int) + 4)))
 n : Own 9 1 w0 w p.vn p.r.names.length ((List.range p.r.names.length).map (mkT (k + 4 + p.r.bytes.length)))
 t : Own 3 1 w0 w p.vt p.r.tags.length ((List.range p.r.tags.length).map (mkI ((k + 4 + p.r.bytes.length + p.r.names.length : Nat) : Int)))
 k : Own 3 1 w0 w p.vk p.r.kids.length ((List.range p.r.kids.length).map (mkI ((k + 4 + p.r.bytes.length + p.r.names.length + p.r.tags.length : Nat) : Int)))
theorem RuleMarked.keep {w0 w w' : World} {k : Nat} {p : RV} (h : RuleMarked w0 w k p) {row : Option Nat} (hg : w.grownBy w' row) (hne : ∀ v ∈ p.vals, ∀ g, v.ownBlock = some g → row ≠ some g) : RuleMarked w0 w' k p :=
 ⟨h.b.keep hg (hne _ (by simp [RV.vals])), h.n.keep hg (hne _ (by simp [RV.vals])), h.t.keep hg (hne _ (by simp [RV.vals])), h.k.keep hg (hne _ (by simp [RV.vals]))⟩
theorem RuleMarked.ext {w0 w w' : World} {k : Nat} {p : RV} (h : RuleMarked w0 w k p) (e : Ext w w') : RuleMarked w0 w' k p := ⟨h.b.ext e, h.n.ext e, h.t.ext e, h.k.ext e⟩
structure MarkingR (w0 w : World) (g c : Nat) (ps : List RV) (k i : Nat) : Prop where
 row : Own 51 8 w0 w (.slice (some ⟨g, 0, none⟩) ps.length c) ps.length ((msR k (ps.take i)).flatMap mkCells ++ (ps.drop i).flatMap RV.cells)
 done : ∀ j (h : j < ps.length), j < i → RuleMarked w0 w (kEndR k (ps.take j)) ps[j]
 todo : ∀ j (h : j < ps.length), i ≤ j → RuleOwn w0 w ps[j]
end Go.Proofs.YtpmcofmdjckijaaGreatDoor
