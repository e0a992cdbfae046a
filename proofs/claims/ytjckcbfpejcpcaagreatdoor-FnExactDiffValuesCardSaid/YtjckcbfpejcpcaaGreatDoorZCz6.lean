/- l9Item of the reference and childRule of the program, at values whose own fields fit. -/
import Derived.Test.YtjckcbfpejcpcaaGreatDoorZCz5
import Derived.Shelf.Strings.OnBuilder
import Derived.Shelf.LaysM
import Derived.Shelf.Strconv.Itoa3
import Derived.Test.YtjckcbfpejcpcaaGreatDoorProg
import Derived.Lib.LaidTab
set_option linter.unusedVariables false
set_option linter.unusedSimpArgs false
set_option linter.unusedSimpArgs false
set_option linter.unusedVariables false
namespace Go.Proofs.YtjckcbfpejcpcaaGreatDoor
open Go.RowKit Go.Sort

theorem kidV5 {r : DRule} (h : r.kind = 5) (n : Int) (j : Nat) : kidV r n j = kd r 1 := by unfold kidV; rw [if_pos h]
theorem kidV6 {r : DRule} (h : r.kind = 6) (n : Int) (j : Nat) : kidV r n j = kd r j := by unfold kidV; rw [if_neg (by omega), if_pos h]
theorem kidV7 {r : DRule} (h : r.kind = 7) (n : Int) (j : Nat) : kidV r n j = kd r (tagN r.tags n + 1) := by unfold kidV; rw [if_neg (by omega), if_neg (by omega), if_pos h]
theorem kidV8 {r : DRule} (h : r.kind = 8 ∨ r.kind = 9) (n : Int) (j : Nat) : kidV r n j = kd r 0 := by unfold kidV; rw [if_neg (by omega), if_neg (by omega), if_neg (by omega)]
/-- where a value of the number n of the rule r has an item j -/
def ItemAt (r : DRule) (n : Int) (j : Nat) : Prop :=
  (r.kind = 5 ∧ 1 < r.kids.length) ∨ (r.kind = 6 ∧ j < r.kids.length ∧ j < r.names.length) ∨ (r.kind = 7 ∧ j = 0 ∧ tagN r.tags n < r.tags.length ∧ tagN r.tags n + 1 < r.kids.length) ∨ ((r.kind = 8 ∨ r.kind = 9) ∧ j = 0 ∧ 0 < r.kids.length)
set_option maxRecDepth 100000 in
set_option maxHeartbeats 4000000 in
theorem sItemV_c (r : DRule) (Ab : Option Addr) (cb : Nat) (An : Option Addr) (cn : Nat) (At : Option Addr) (ct : Nat) (Ak : Option Addr) (ck : Nat) (n : Int) (j : Nat) (w : World) (h : RdS w r Ab cb An cn At ct Ak ck) (hj : j ≤ 9223372036854775807) (hat : ItemAt r n j) (h7 : r.kind = 7 → r.kids.length = r.tags.length + 1) (hkn : ∀ j (hj : j < r.kids.length), r.kids[j] = (kd r j : Int)) :
    Gives Tryz.prog 57 #[vrule r (.slice Ab r.bytes.length cb) (.slice An r.names.length cn) (.slice At r.tags.length ct) (.slice Ak r.kids.length ck), .int .i64 n, .int .i64 (j : Int)] w (.int .i64 (kidV r n j : Nat)) := by
  have hlk := h.k.len
  have go : ∀ t (ht : t < r.kids.length), ∃ bk ok, Ak = some ⟨bk, ok, none⟩ ∧ ∀ (w' : World), Ext w w' → w'.cell? ⟨bk, ok + t, none⟩ = some (.int .i64 (kd r t : Int)) := fun t ht => by
    obtain ⟨bk, ok, hA, _, hc⟩ := h.k.at t ht
    rw [hkn t ht] at hc
    exact ⟨bk, ok, hA, hc⟩
  rcases hat with ⟨hk, hl⟩ | ⟨hk, hl, _⟩ | ⟨hk, rfl, hl, _⟩ | ⟨hk, rfl, hl⟩
  · rw [kidV5 hk]
    obtain ⟨bk, ok, rfl, hc⟩ := go 1 hl
    have q5 : (r.kind == 5) = true := by rw [hk]; rfl
    have eb := Ext_alloc (.cells #[.string r.nm, .int .i64 r.kind, .int .i64 r.size, .bool r.little, .slice Ab r.bytes.length cb, .slice An r.names.length cn, .slice At r.tags.length ct, .slice (some ⟨bk, ok, none⟩) r.kids.length ck] 97) (Ext.refl w)
    have hl2 : (1 : Int) < (r.kids.length : Int) := by omega
    generalize kd r 1 = y at *
    clear go hkn h7 h hk
    unfold vrule
    go_enter Tryz.func57, Tryz.ntmps57
    go_wp2
    go_ret
    exact ⟨rfl, eb⟩
  · rw [kidV6 hk]
    obtain ⟨bk, ok, rfl, hc⟩ := go j hl
    have q5 : (r.kind == 5) = false := by rw [hk]; rfl
    have q6 : (r.kind == 6) = true := by rw [hk]; rfl
    have eb := Ext_alloc (.cells #[.string r.nm, .int .i64 r.kind, .int .i64 r.size, .bool r.little, .slice Ab r.bytes.length cb, .slice An r.names.length cn, .slice At r.tags.length ct, .slice (some ⟨bk, ok, none⟩) r.kids.length ck] 97) (Ext.refl w)
    have d1 : decide ((j : Int) < (r.kids.length : Int)) = true := decide_eq_true (by omega)
    have hl2 : (j : Int) < (r.kids.length : Int) := by omega
    generalize kd r j = y at *
    clear go hkn h7 h hk
    unfold vrule
    go_enter Tryz.func57, Tryz.ntmps57
    go_wp2
    go_ret
    exact ⟨rfl, eb⟩
  · have C := sItem_c r Ab cb An cn At ct Ak ck n w h hk (h7 hk) hkn
    rw [if_pos hl] at C
    rw [kidV7 hk]
    exact C
  · rw [kidV8 hk]
    obtain ⟨bk, ok, rfl, hc⟩ := go 0 hl
    have q5 : (r.kind == 5) = false := by rcases hk with hk | hk <;> rw [hk] <;> rfl
    have q6 : (r.kind == 6) = false := by rcases hk with hk | hk <;> rw [hk] <;> rfl
    have q7 : (r.kind == 7) = false := by rcases hk with hk | hk <;> rw [hk] <;> rfl
    have eb := Ext_alloc (.cells #[.string r.nm, .int .i64 r.kind, .int .i64 r.size, .bool r.little, .slice Ab r.bytes.length cb, .slice An r.names.length cn, .slice At r.tags.length ct, .slice (some ⟨bk, ok, none⟩) r.kids.length ck] 97) (Ext.refl w)
    have hl2 : (0 : Int) < (r.kids.length : Int) := by omega
    simp only [Nat.add_zero] at hc
    generalize kd r 0 = y at *
    clear go hkn h7 h
    unfold vrule
    rcases hk with hk | hk
    · have q8 : (r.kind == 8) = true := by rw [hk]; rfl
      clear hk
      go_enter Tryz.func57, Tryz.ntmps57
      go_wp2
      go_ret
      exact ⟨rfl, eb⟩
    · have q8 : (r.kind == 8) = false := by rw [hk]; rfl
      have q9 : (r.kind == 9) = true := by rw [hk]; rfl
      clear hk
      go_enter Tryz.func57, Tryz.ntmps57
      go_wp2
      go_ret
      exact ⟨rfl, eb⟩
/-- what childRule says: at a choice, of any number -/
def kidI (r : DRule) (n : Int) (j : Nat) : Int := if r.kind = 7 then (if tagN r.tags n < r.tags.length then (kd r (tagN r.tags n + 1) : Int) else -1) else (kidV r n j : Int)
def ItemAtI (r : DRule) (j : Nat) : Prop :=
  (r.kind = 5 ∧ 1 < r.kids.length) ∨ (r.kind = 6 ∧ j < r.kids.length) ∨ (r.kind = 7 ∧ r.kids.length = r.tags.length + 1) ∨ ((r.kind = 8 ∨ r.kind = 9) ∧ 0 < r.kids.length)
set_option maxRecDepth 100000 in
set_option maxHeartbeats 8000000 in
theorem iChild_c (A : Option Addr) (ds : List DRule) (c : Nat) (i : Nat) (hi : i < ds.length) (n : Int) (g off j : Nat) (w : World) (hd : RdD w A ds c) (hv : ∀ (w' : World), Ext w w' → w'.cell? ⟨g, off, none⟩ = some (.int .i64 n)) (hj : j ≤ 9223372036854775807) (hat : ItemAtI ds[i] j) (hkn : ∀ j (hj : j < ds[i].kids.length), ds[i].kids[j] = (kd ds[i] j : Int)) :
    Gives Tryz.prog 69 #[vdesc (.slice A ds.length c), .int .i64 (i : Int), .pointer (some ⟨g, off, none⟩), .int .i64 (j : Int)] w (.int .i64 (kidI ds[i] n j)) := by
  have hl := hd.len
  obtain ⟨b, ro, Ab, cb, An, cn, At, ct, Ak, ck, hA, hbb, hS, hR⟩ := hd.at i hi
  subst hA
  have eb := Ext_alloc (.cells #[.slice (some ⟨b, ro, none⟩) ds.length c] 35) (Ext.refl w)
  have BX := fun w' (e : Ext (w.alloc (.cells #[.slice (some ⟨b, ro, none⟩) ds.length c] 35)) w') => boxed e 0
  simp only [List.getElem?_toArray, List.getElem?_cons_zero] at BX
  have hlk := hS.k.len; have hlt := hS.t.len
  generalize ds[i] = r at *
  have go : ∀ t (ht : t < r.kids.length), ∃ bk ok, Ak = some ⟨bk, ok, none⟩ ∧ ∀ (w' : World), Ext (w.alloc (.cells #[.slice (some ⟨b, ro, none⟩) ds.length c] 35)) w' → w'.cell? ⟨bk, ok + t, none⟩ = some (.int .i64 (kd r t : Int)) := fun t ht => by
    obtain ⟨bk, ok, hA, _, hc⟩ := hS.k.at t ht
    rw [hkn t ht] at hc
    exact ⟨bk, ok, hA, fun w' e => hc w' (eb.trans e)⟩
  obtain ⟨k0, k1, k2, k3, k4, k5, k6, k7⟩ := hR
  replace k1 := fun w' (e : Ext (w.alloc (.cells #[.slice (some ⟨b, ro, none⟩) ds.length c] 35)) w') => k1 w' (eb.trans e)
  replace k6 := fun w' (e : Ext (w.alloc (.cells #[.slice (some ⟨b, ro, none⟩) ds.length c] 35)) w') => k6 w' (eb.trans e)
  replace k7 := fun w' (e : Ext (w.alloc (.cells #[.slice (some ⟨b, ro, none⟩) ds.length c] 35)) w') => k7 w' (eb.trans e)
  replace hv := fun w' (e : Ext (w.alloc (.cells #[.slice (some ⟨b, ro, none⟩) ds.length c] 35)) w') => hv w' (eb.trans e)
  clear k0 k2 k3 k4 k5 hd
  unfold vdesc
  rcases hat with ⟨hk, hl'⟩ | ⟨hk, hl'⟩ | ⟨hk, hl'⟩ | ⟨hk, hl'⟩
  · have HE : Hid (kidI r n j = (kd r 1 : Int)) := by show _ = _; unfold kidI; rw [if_neg (by omega), kidV5 hk]
    rw [HE.out]
    obtain ⟨bk, ok, rfl, hc⟩ := go 1 hl'
    have q5 : (r.kind == 5) = true := by rw [hk]; rfl
    have hl2 : (1 : Int) < (r.kids.length : Int) := by omega
    generalize kd r 1 = y at *
    clear go hkn hS hk HE
    go_enter Tryz.func69, Tryz.ntmps69
    go_wp2
    go_ret
    exact ⟨rfl, eb⟩
  · have HE : Hid (kidI r n j = (kd r j : Int)) := by show _ = _; unfold kidI; rw [if_neg (by omega), kidV6 hk]
    rw [HE.out]
    obtain ⟨bk, ok, rfl, hc⟩ := go j hl'
    have q5 : (r.kind == 5) = false := by rw [hk]; rfl
    have q6 : (r.kind == 6) = true := by rw [hk]; rfl
    have d1 : decide ((j : Int) < (r.kids.length : Int)) = true := decide_eq_true (by omega)
    have hl2 : (j : Int) < (r.kids.length : Int) := by omega
    generalize kd r j = y at *
    clear go hkn hS hk HE
    go_enter Tryz.func69, Tryz.ntmps69
    go_wp2
    go_ret
    exact ⟨rfl, eb⟩
  · have FY : Hid (∀ k (hk : k < r.tags.length), (∀ j (hj : j < r.tags.length), j < k → r.tags[j] ≠ n) → r.tags[k] = n → kidI r n j = (kd r (k + 1) : Int)) := by
      intro k hk' hn he; unfold kidI; rw [if_pos hk, tagN_at hk' he hn, if_pos hk']
    have FN : Hid ((∀ j (hj : j < r.tags.length), r.tags[j] ≠ n) → kidI r n j = -1) := by
      intro hn; unfold kidI; rw [if_pos hk, tagN_none hn, if_neg (Nat.lt_irrefl _)]
    generalize kidI r n j = R at *
    have q5 : (r.kind == 5) = false := by rw [hk]; rfl
    have q6 : (r.kind == 6) = false := by rw [hk]; rfl
    have q7 : (r.kind == 7) = true := by rw [hk]; rfl
    have HL1 := Lib.hid hl'
    have HT := Lib.hid (hS.t.ext eb)
    have HG := Lib.hid go
    clear hk hkn hl' hS go
    go_enter Tryz.func69, Tryz.ntmps69
    go_wp2
    go_loopw [51] (fun ix wr => ∃ k : Nat, k ≤ r.tags.length ∧ ix = .int .i64 k ∧ Hid (∀ j (hj : j < r.tags.length), j < k → r.tags[j] ≠ n) ∧ Ext (w.alloc (.cells #[.slice (some ⟨b, ro, none⟩) ds.length c] 35)) wr) (fun ix _ => r.tags.length - (intOf ix).toNat)
    case atStart => exact ⟨0, by omega, rfl, (fun j _ hj => by omega), Ext.refl _⟩
    case round =>
      obtain ⟨k, hk, rfl, hn, he⟩ := hrel
      by_cases hlt : k < r.tags.length
      · obtain ⟨bt, ot, rfl, hbt, hct⟩ := HT.out.at k hlt
        obtain ⟨bk, ok, rfl, hck⟩ := HG.out (k + 1) (by have := HL1.out; omega)
        have Y := Lib.hid (FY.out k hlt hn.out)
        have N : Hid (¬ r.tags[k] = n → ∀ j (hj : j < r.tags.length), j < k + 1 → r.tags[j] ≠ n) := fun hne j hj hjk => by
          rcases (by omega : j < k ∨ j = k) with hjk | rfl
          · exact hn.out j hj hjk
          · exact hne
        have d1 : decide ((k : Int) < (r.tags.length : Int)) = true := decide_eq_true (by omega)
        generalize r.tags[k] = x at *
        generalize kd r (k + 1) = y at *
        have hkl : k + 1 < r.kids.length := by have := HL1.out; omega
        clear FY FN hn HT HG
        by_cases hx : x = n
        · have HE := Lib.hid (Y.out hx); clear Y N
          have kx : (x == n) = true := by simpa using hx
          clear hx
          go_wp2
          go_ret
          exact ⟨ret_i64 HE.out.symm, eb.trans he⟩
        · have HE := Lib.hid (N.out hx); clear Y N
          have kx : (x == n) = false := by simpa using hx
          clear hx
          go_wp2
          go_roundw
          case rel => exact ⟨k + 1, by omega, by go_num, HE, he⟩
          case measure => simp [intOf]; omega
      · have HE := Lib.hid (FN.out (fun j hj => hn.out j hj (by omega)))
        have d1 : decide ((k : Int) < (r.tags.length : Int)) = false := decide_eq_false (by omega)
        clear FY FN
        go_wp2
        go_ret
        exact ⟨ret_i64 HE.out.symm, eb.trans he⟩
  · have HE : Hid (kidI r n j = (kd r 0 : Int)) := by show _ = _; unfold kidI; rw [if_neg (by omega), kidV8 hk]
    rw [HE.out]
    obtain ⟨bk, ok, rfl, hc⟩ := go 0 hl'
    have q5 : (r.kind == 5) = false := by rcases hk with hk | hk <;> rw [hk] <;> rfl
    have q6 : (r.kind == 6) = false := by rcases hk with hk | hk <;> rw [hk] <;> rfl
    have q7 : (r.kind == 7) = false := by rcases hk with hk | hk <;> rw [hk] <;> rfl
    have hl2 : (0 : Int) < (r.kids.length : Int) := by omega
    simp only [Nat.add_zero] at hc
    generalize kd r 0 = y at *
    clear go hkn hS HE
    rcases hk with hk | hk
    · have q8 : (r.kind == 8) = true := by rw [hk]; rfl
      clear hk
      go_enter Tryz.func69, Tryz.ntmps69
      go_wp2
      go_ret
      exact ⟨rfl, eb⟩
    · have q8 : (r.kind == 8) = false := by rw [hk]; rfl
      have q9 : (r.kind == 9) = true := by rw [hk]; rfl
      clear hk
      go_enter Tryz.func69, Tryz.ntmps69
      go_wp2
      go_ret
      exact ⟨rfl, eb⟩
end Go.Proofs.YtjckcbfpejcpcaaGreatDoor

/-
  strconv.Itoa's and strings.Join's contracts at this seat: printed by the kit's tools lay-shelf.mjs and lay-plain.mjs out of the shelf (its numbers are this seat's).
-/
namespace Go.Proofs
open Go.Shelf Go.RowKit Go.Sort
def Tryz.laysM171_ren : Go.Shelf.Ren := ⟨fun | 171 => 129 | 243 => 141 | 246 => 153 | 283 => 158 | 284 => 159 | 285 => 160 | 286 => 161 | 129 => 165 | 317 => 164 | 318 => 166 | 319 => 167 | 320 => 168 | 337 => 169 | 338 => 170 | n => n, fun | 3 => 3 | 9 => 9 | 2 => 2 | 4 => 4 | 171 => 185 | 0 => 0 | 53 => 186 | 37 => 25 | 5 => 5 | 173 => 189 | 212 => 195 | 51 => 196 | 20 => 20 | 213 => 197 | 46 => 161 | 232 => 201 | 233 => 202 | n => n, fun | 17 => 0 | 18 => 2 | 19 => 3 | n => n⟩
theorem Tryz.laysM171 : Go.Proofs.LaysM.n171 Tryz.prog Tryz.laysM171_ren := {
  mixed := by kernel_rfl
  f129 := Tryz.func165.trans (congrArg some (by kernel_rfl))
  f171 := Tryz.func129.trans (congrArg some (by kernel_rfl))
  f243 := Tryz.func141.trans (congrArg some (by kernel_rfl))
  f246 := Tryz.func153.trans (congrArg some (by kernel_rfl))
  f283 := Tryz.func158.trans (congrArg some (by kernel_rfl))
  f284 := Tryz.func159.trans (congrArg some (by kernel_rfl))
  f285 := Tryz.func160.trans (congrArg some (by kernel_rfl))
  f286 := Tryz.func161.trans (congrArg some (by kernel_rfl))
  f317 := Tryz.func164.trans (congrArg some (by kernel_rfl))
  f318 := Tryz.func166.trans (congrArg some (by kernel_rfl))
  f319 := Tryz.func167.trans (congrArg some (by kernel_rfl))
  f320 := Tryz.func168.trans (congrArg some (by kernel_rfl))
  f337 := Tryz.func169.trans (congrArg some (by kernel_rfl))
  f338 := Tryz.func170.trans (congrArg some (by kernel_rfl))
  t0 := Tryz.underlying0
  a0 := Tryz.isAgg0
  z0 := Tryz.sizeOf0
  v0 := Tryz.zeroValue0
  t2 := Tryz.underlying2
  a2 := Tryz.isAgg2
  z2 := Tryz.sizeOf2
  v2 := Tryz.zeroValue2
  t3 := Tryz.underlying3
  a3 := Tryz.isAgg3
  z3 := Tryz.sizeOf3
  v3 := Tryz.zeroValue3
  t4 := Tryz.underlying4
  a4 := Tryz.isAgg4
  z4 := Tryz.sizeOf4
  v4 := Tryz.zeroValue4
  t5 := Tryz.underlying5
  a5 := Tryz.isAgg5
  z5 := Tryz.sizeOf5
  v5 := Tryz.zeroValue5
  t9 := Tryz.underlying9
  a9 := Tryz.isAgg9
  z9 := Tryz.sizeOf9
  v9 := Tryz.zeroValue9
  t20 := Tryz.underlying20
  a20 := Tryz.isAgg20
  z20 := Tryz.sizeOf20
  v20 := Tryz.zeroValue20
  t37 := Tryz.underlying25
  a37 := Tryz.isAgg25
  z37 := Tryz.sizeOf25
  v37 := Tryz.zeroValue25
  t46 := Tryz.underlying161
  a46 := Tryz.isAgg161
  z46 := Tryz.sizeOf161
  v46 := Tryz.zeroValue161
  t51 := Tryz.underlying196
  a51 := Tryz.isAgg196
  z51 := Tryz.sizeOf196
  v51 := Tryz.zeroValue196
  t53 := Tryz.underlying186
  a53 := Tryz.isAgg186
  z53 := Tryz.sizeOf186
  v53 := Tryz.zeroValue186
  t171 := Tryz.underlying185
  a171 := Tryz.isAgg185
  z171 := Tryz.sizeOf185
  v171 := Tryz.zeroValue185
  t173 := Tryz.underlying189
  a173 := Tryz.isAgg189
  z173 := Tryz.sizeOf189
  v173 := Tryz.zeroValue189
  t212 := Tryz.underlying195
  a212 := Tryz.isAgg195
  z212 := Tryz.sizeOf195
  v212 := Tryz.zeroValue195
  t213 := Tryz.underlying197
  a213 := Tryz.isAgg197
  z213 := Tryz.sizeOf197
  t232 := Tryz.underlying201
  a232 := Tryz.isAgg201
  z232 := Tryz.sizeOf201
  v232 := Tryz.zeroValue201
  t233 := Tryz.underlying202
  a233 := Tryz.isAgg202
  z233 := Tryz.sizeOf202
  v233 := Tryz.zeroValue202
  g17 := by kernel_rfl
  g18 := by kernel_rfl
  g19 := by kernel_rfl
  i0 := by kernel_rfl
  i2 := by kernel_rfl
  i3 := by kernel_rfl
  i4 := by kernel_rfl
  i5 := by kernel_rfl
  i9 := by kernel_rfl
  i20 := by kernel_rfl
  i37 := by kernel_rfl
  i46 := by kernel_rfl
  i51 := by kernel_rfl
  i53 := by kernel_rfl
  i171 := by kernel_rfl
  i173 := by kernel_rfl
  i212 := by kernel_rfl
  i232 := by kernel_rfl
  i233 := by kernel_rfl
  m17 := by kernel_rfl
  m18 := by kernel_rfl
  m19 := by kernel_rfl }
theorem Tryz.strconv_Itoa (n : Int) (h0 : -9223372036854775808 ≤ n) (h1 : n ≤ 9223372036854775807) (w : World) (htab : Lib.TabIs Tryz.prog w "internal/strconv.uint64pow10" .u64 Lib.pow10Tab) :
    Calls Tryz.prog 129 #[.int .i64 n] w fun e w' => e = .returned (.string ⟨(Lib.itoa n).toArray⟩) ∧ ∃ k os, w' = grow (w.drewN k) os := Any.strconv_Itoa Tryz.laysM171 n h0 h1 w htab
def Tryz.lays156_ren : Go.Shelf.Ren := ⟨fun | 156 => 137 | 165 => 147 | 166 => 148 | 169 => 149 | 240 => 155 | 241 => 156 | 276 => 162 | 277 => 163 | n => n, fun | 31 => 90 | 9 => 9 | 3 => 3 | 4 => 4 | 0 => 0 | 20 => 20 | 72 => 174 | 76 => 178 | 70 => 172 | 37 => 25 | 75 => 177 | 127 => 184 | 164 => 191 | 5 => 5 | 80 => 180 | n => n, fun | n => n⟩
theorem Tryz.lays156 : Go.Proofs.Lays.n156 Tryz.prog Tryz.lays156_ren := {
  mixed := by kernel_rfl
  f156 := Tryz.func137.trans (congrArg some (by kernel_rfl))
  f165 := Tryz.func147.trans (congrArg some (by kernel_rfl))
  f166 := Tryz.func148.trans (congrArg some (by kernel_rfl))
  f169 := Tryz.func149.trans (congrArg some (by kernel_rfl))
  f240 := Tryz.func155.trans (congrArg some (by kernel_rfl))
  f241 := Tryz.func156.trans (congrArg some (by kernel_rfl))
  f276 := Tryz.func162.trans (congrArg some (by kernel_rfl))
  f277 := Tryz.func163.trans (congrArg some (by kernel_rfl))
  t0 := Tryz.underlying0
  a0 := Tryz.isAgg0
  z0 := Tryz.sizeOf0
  v0 := Tryz.zeroValue0
  t3 := Tryz.underlying3
  a3 := Tryz.isAgg3
  z3 := Tryz.sizeOf3
  v3 := Tryz.zeroValue3
  t4 := Tryz.underlying4
  a4 := Tryz.isAgg4
  z4 := Tryz.sizeOf4
  v4 := Tryz.zeroValue4
  t9 := Tryz.underlying9
  a9 := Tryz.isAgg9
  z9 := Tryz.sizeOf9
  v9 := Tryz.zeroValue9
  t20 := Tryz.underlying20
  a20 := Tryz.isAgg20
  z20 := Tryz.sizeOf20
  v20 := Tryz.zeroValue20
  t31 := Tryz.underlying90
  a31 := Tryz.isAgg90
  z31 := Tryz.sizeOf90
  v31 := Tryz.zeroValue90
  t37 := Tryz.underlying25
  a37 := Tryz.isAgg25
  z37 := Tryz.sizeOf25
  v37 := Tryz.zeroValue25
  t70 := Tryz.underlying172
  a70 := Tryz.isAgg172
  z70 := Tryz.sizeOf172
  v70 := Tryz.zeroValue172
  t72 := Tryz.underlying174
  a72 := Tryz.isAgg174
  z72 := Tryz.sizeOf174
  v72 := Tryz.zeroValue174
  t75 := Tryz.underlying177
  a75 := Tryz.isAgg177
  z75 := Tryz.sizeOf177
  v75 := Tryz.zeroValue177
  t76 := Tryz.underlying178
  a76 := Tryz.isAgg178
  z76 := Tryz.sizeOf178
  v76 := Tryz.zeroValue178
  t127 := Tryz.underlying184
  a127 := Tryz.isAgg184
  z127 := Tryz.sizeOf184
  v127 := Tryz.zeroValue184
  t164 := Tryz.underlying191
  a164 := Tryz.isAgg191
  z164 := Tryz.sizeOf191
  v164 := Tryz.zeroValue191 }
theorem Tryz.Builder_Extra_156 : Builder.Extra Tryz.prog Tryz.lays156_ren := {
  sizeBuilder := by kernel_rfl
  liesBuilder := by kernel_rfl
  t5 := Tryz.underlying5
  a5 := Tryz.isAgg5
  z5 := Tryz.sizeOf5
  v5 := Tryz.zeroValue5
  infoByte := by kernel_rfl
  cellsByte := by kernel_rfl
  sizeByte := by kernel_rfl
  neB5 := by decide }
theorem Tryz.strings_Join_none (a : Option Addr) (c : Nat) (sep : ByteArray) (w : World) :
    Calls Tryz.prog 137 #[.slice a 0 c, .string sep] w fun e w' => e = .returned (.string ⟨#[]⟩) ∧ w' = w := Any.strings_Join_none Tryz.lays156 Tryz.Builder_Extra_156 a c sep w
theorem Tryz.strings_Join (bk o c : Nat) (xs : List ByteArray) (sep : ByteArray) (w : World) (hcells : ∀ (j : Nat) x, xs[j]? = some x → w.cell? ⟨bk, o + j, none⟩ = some (.string x)) (hbk : bk < w.heap.size) (hN : xs.length ≤ 140737488355328) (hcap : xs.length ≤ c) (hlen : (Lib.join (xs.map (·.data.toList)) sep.data.toList).length ≤ 140737488355328) :
    Calls Tryz.prog 137 #[.slice (some ⟨bk, o, none⟩) xs.length c, .string sep] w fun e w' => e = .returned (.string ⟨(Lib.join (xs.map (·.data.toList)) sep.data.toList).toArray⟩) ∧ Below w.heap.size w w' := Any.strings_Join Tryz.lays156 Tryz.Builder_Extra_156 bk o c xs sep w hcells hbk hN hcap hlen
end Go.Proofs

/- strconv's tables; FormatInt of the program. -/
namespace Go.Proofs.YtjckcbfpejcpcaaGreatDoor
open Go.RowKit Go.Sort

/-- the table that strconv reads lies where the program's start lays it -/
def Tab (w : World) : Prop := Lib.TabIs Tryz.prog w "internal/strconv.uint64pow10" .u64 Lib.pow10Tab
theorem Tab.ext {w w' : World} (h : Tab w) (e : Ext w w') : Tab w' := by
  unfold Tab Lib.TabIs World.var? at *
  rw [Option.bind_eq_some_iff] at *
  obtain ⟨g, hg, hc⟩ := h
  refine ⟨g, hg, ?_⟩
  rcases Nat.lt_or_ge g w.heap.size with hlt | hge
  · rw [Below.block e g hlt]; exact hc
  · rw [Array.getElem?_eq_none hge] at hc; simp at hc
theorem i64_of_wf {n : Int} (h : (Lit.int .i64 n).wf = true) : -9223372036854775808 ≤ n ∧ n ≤ 9223372036854775807 := by
  have h' : (decide (IntKind.i64.min ≤ n) && decide (n ≤ IntKind.i64.max)) = true := h
  rw [Bool.and_eq_true, decide_eq_true_eq, decide_eq_true_eq] at h'
  have e1 : IntKind.i64.min = -9223372036854775808 := by decide
  have e2 : IntKind.i64.max = 9223372036854775807 := by decide
  omega
theorem iFormatInt_c (n : Int) (w : World) (hT : Tab w) (h0 : -9223372036854775808 ≤ n) (h1 : n ≤ 9223372036854775807) :
    Gives Tryz.prog 99 #[.int .i64 n] w (.string (itoaB n)) := by
  have C := Lib.hid (Tryz.strconv_Itoa n h0 h1 w hT)
  unfold itoaB
  generalize (Lib.itoa n) = l at *
  go_enter Tryz.func99, Tryz.ntmps99
  go_wp2_with fail
  refine C.out.mono ?_; rintro _ w1 ⟨rfl, k, os, hw⟩
  have he : Ext w w1 := by rw [hw]; exact Lib.below_grow _ w (Nat.le_refl _) k os
  clear hw
  go_wp2
  go_ret
  exact ⟨rfl, he⟩
end Go.Proofs.YtjckcbfpejcpcaaGreatDoor

/- The step to an item: l18Step of the reference, StepOf of the program. -/
set_option linter.unusedSimpArgs false
set_option linter.unusedVariables false
namespace Go.Proofs.YtjckcbfpejcpcaaGreatDoor
open Go.RowKit Go.Sort

theorem stepR5 {r : DRule} (h : r.kind = 5) (j : Nat) : stepR r j = itoaB j := by unfold stepR; rw [if_pos h]
theorem stepR6 {r : DRule} (h : r.kind = 6) (j : Nat) (hj : j < r.names.length) : stepR r j = r.names[j] := by unfold stepR; rw [if_neg (by omega), if_pos h]; simp [hj]
theorem stepR7 {r : DRule} (h : r.kind = 7) (j : Nat) : stepR r j = ⟨#[42]⟩ := by unfold stepR; rw [if_neg (by omega), if_neg (by omega), if_pos h]
theorem stepR8 {r : DRule} (h : r.kind = 8) (j : Nat) : stepR r j = ⟨#[63]⟩ := by unfold stepR; rw [if_neg (by omega), if_neg (by omega), if_neg (by omega), if_pos h]
theorem stepR9 {r : DRule} (h : r.kind = 9) (j : Nat) : stepR r j = ⟨#[43]⟩ := by unfold stepR; rw [if_neg (by omega), if_neg (by omega), if_neg (by omega), if_neg (by omega)]
theorem stepR_size {ds : List DRule} (hok : descOk ds = true) (i : Nat) (hi : i < ds.length) {n : Int} {j : Nat} (h : ItemAt ds[i] n j) (hj : j ≤ 9223372036854775807) : (stepR ds[i] j).size ≤ 20 := by
  rcases h with ⟨hk, _⟩ | ⟨hk, _, hn⟩ | ⟨hk, _, _, _⟩ | ⟨hk | hk, _, _⟩
  · rw [stepR5 hk]; exact itoa_size _ (by omega) (by omega)
  · rw [stepR6 hk j hn]; have := ((kids_len hok i hi).2.2.1 hk).2 _ (List.getElem_mem hn); omega
  · rw [stepR7 hk]; show (1 : Nat) ≤ 20; omega
  · rw [stepR8 hk]; show (1 : Nat) ≤ 20; omega
  · rw [stepR9 hk]; show (1 : Nat) ≤ 20; omega
set_option maxRecDepth 100000 in
set_option maxHeartbeats 4000000 in
theorem sStep_c (r : DRule) (Ab : Option Addr) (cb : Nat) (An : Option Addr) (cn : Nat) (At : Option Addr) (ct : Nat) (Ak : Option Addr) (ck : Nat) (n : Int) (j : Nat) (w : World) (h : RdS w r Ab cb An cn At ct Ak ck) (hj : j ≤ 9223372036854775807) (hat : ItemAt r n j) :
    Gives Tryz.prog 63 #[vrule r (.slice Ab r.bytes.length cb) (.slice An r.names.length cn) (.slice At r.tags.length ct) (.slice Ak r.kids.length ck), .int .i64 (j : Int)] w (.string (stepR r j)) := by
  have hln := h.n.len
  have eb := Ext_alloc (.cells #[.string r.nm, .int .i64 r.kind, .int .i64 r.size, .bool r.little, .slice Ab r.bytes.length cb, .slice An r.names.length cn, .slice At r.tags.length ct, .slice Ak r.kids.length ck] 97) (Ext.refl w)
  rcases hat with ⟨hk, _⟩ | ⟨hk, _, hl⟩ | ⟨hk, rfl, _, _⟩ | ⟨hk | hk, rfl, _⟩
  · rw [stepR5 hk]
    have q5 : (r.kind == 5) = true := by rw [hk]; rfl
    have C := Lib.hid (fun w => sFormatInt_c (j : Int) w (by omega) (by omega))
    clear hk h
    generalize itoaB (j : Int) = t at *
    unfold vrule
    go_enter Tryz.func63, Tryz.ntmps63
    go_wp2_with fail
    refine (C.out _).mono ?_; rintro _ w1 ⟨rfl, he1⟩
    go_wp2
    go_ret
    exact ⟨rfl, eb.trans he1⟩
  · rw [stepR6 hk j hl]
    obtain ⟨bn, on, rfl, hbn, hcn⟩ := h.n.at j hl
    have q5 : (r.kind == 5) = false := by rw [hk]; rfl
    have q6 : (r.kind == 6) = true := by rw [hk]; rfl
    have d1 : decide ((j : Int) < (r.names.length : Int)) = true := decide_eq_true (by omega)
    have hl2 : (j : Int) < (r.names.length : Int) := by omega
    generalize r.names[j] = t at *
    clear hk h
    unfold vrule
    go_enter Tryz.func63, Tryz.ntmps63
    go_wp2
    go_ret
    exact ⟨rfl, eb⟩
  · rw [stepR7 hk]
    have q5 : (r.kind == 5) = false := by rw [hk]; rfl
    have q6 : (r.kind == 6) = false := by rw [hk]; rfl
    have q7 : (r.kind == 7) = true := by rw [hk]; rfl
    clear hk h
    unfold vrule
    go_enter Tryz.func63, Tryz.ntmps63
    go_wp2
    go_ret
    exact ⟨rfl, eb⟩
  · rw [stepR8 hk]
    have q5 : (r.kind == 5) = false := by rw [hk]; rfl
    have q6 : (r.kind == 6) = false := by rw [hk]; rfl
    have q7 : (r.kind == 7) = false := by rw [hk]; rfl
    have q8 : (r.kind == 8) = true := by rw [hk]; rfl
    clear hk h
    unfold vrule
    go_enter Tryz.func63, Tryz.ntmps63
    go_wp2
    go_ret
    exact ⟨rfl, eb⟩
  · rw [stepR9 hk]
    have q5 : (r.kind == 5) = false := by rw [hk]; rfl
    have q6 : (r.kind == 6) = false := by rw [hk]; rfl
    have q7 : (r.kind == 7) = false := by rw [hk]; rfl
    have q8 : (r.kind == 8) = false := by rw [hk]; rfl
    have q9 : (r.kind == 9) = true := by rw [hk]; rfl
    clear hk h
    unfold vrule
    go_enter Tryz.func63, Tryz.ntmps63
    go_wp2
    go_ret
    exact ⟨rfl, eb⟩
set_option maxRecDepth 100000 in
set_option maxHeartbeats 8000000 in
theorem iStep_c (A : Option Addr) (ds : List DRule) (c : Nat) (i : Nat) (hi : i < ds.length) (n : Int) (j : Nat) (w : World) (hok : descOk ds = true) (hd : RdD w A ds c) (hs : ShortD ds) (hw : WfD ds) (hj : j ≤ 9223372036854775807) (hat : ItemAt ds[i] n j) (hT : Tab w) :
    Gives Tryz.prog 70 #[vdesc (.slice A ds.length c), .int .i64 (i : Int), .int .i64 (j : Int)] w (.string (stepR ds[i] j)) := by
  have hl := hd.len
  have hkn : knownB ds (i : Int) = true := by unfold knownB; simp [hok]; omega
  have CK := Lib.hid (fun w h => iKnown_c A ds c (i : Int) w h hs hw)
  rw [hkn] at CK
  have C5 := Lib.hid (fun w hT => iFormatInt_c (j : Int) w hT (by omega) (by omega))
  obtain ⟨b, ro, Ab, cb, An, cn, At, ct, Ak, ck, hA, hbb, hS, hR⟩ := hd.at i hi
  have HD := Lib.hid hd; have HTAB := Lib.hid hT
  have eb := Ext_alloc (.cells #[.slice A ds.length c] 35) (Ext.refl w)
  have BX := fun w' (e : Ext (w.alloc (.cells #[.slice A ds.length c] 35)) w') => boxed e 0
  simp only [List.getElem?_toArray, List.getElem?_cons_zero] at BX
  obtain ⟨W0, hW0⟩ : ∃ W0, W0 = w.alloc (.cells #[.slice A ds.length c] 35) := ⟨_, rfl⟩
  have HW0 := Lib.hid hW0
  rw [← hW0] at eb BX
  have hln := hS.n.len
  have HSN := Lib.hid hS.n
  obtain ⟨k0, k1, k2, k3, k4, k5, k6, k7⟩ := hR
  clear hd hS hW0 hkn hok hs hw hT
  have hji : (0 : Int) ≤ (j : Int) := by omega
  have d0 : decide ((j : Int) < 0) = false := decide_eq_false (by omega)
  unfold vdesc at *
  subst hA
  generalize hr : ds[i] = r at *
  clear hr
  replace k0 := fun w' (e : Ext W0 w') => k0 w' (eb.trans e)
  replace k1 := fun w' (e : Ext W0 w') => k1 w' (eb.trans e)
  replace k2 := fun w' (e : Ext W0 w') => k2 w' (eb.trans e)
  replace k3 := fun w' (e : Ext W0 w') => k3 w' (eb.trans e)
  replace k4 := fun w' (e : Ext W0 w') => k4 w' (eb.trans e)
  replace k5 := fun w' (e : Ext W0 w') => k5 w' (eb.trans e)
  replace k6 := fun w' (e : Ext W0 w') => k6 w' (eb.trans e)
  replace k7 := fun w' (e : Ext W0 w') => k7 w' (eb.trans e)
  rcases hat with ⟨hk, _⟩ | ⟨hk, _, hl⟩ | ⟨hk, rfl, _, _⟩ | ⟨hk | hk, rfl, _⟩
  · rw [stepR5 hk]
    have q5 : (r.kind == 5) = true := by rw [hk]; rfl
    clear hk HSN
    generalize itoaB (j : Int) = t at *
    go_enter Tryz.func70, Tryz.ntmps70
    go_wp2_with fail
    rw [← HW0.out]
    refine (CK.out _ (HD.out.ext eb)).mono ?_; rintro _ w1 ⟨rfl, he1⟩
    have ex := he1.trans (Ext_alloc (.cells #[.string r.nm, .int .i64 r.kind, .int .i64 r.size, .bool r.little, .slice Ab r.bytes.length cb, .slice An r.names.length cn, .slice At r.tags.length ct, .slice Ak r.kids.length ck] 97) (Ext.refl w1))
    go_wp2_with fail
    refine (C5.out _ (HTAB.out.ext (eb.trans ex))).mono ?_; rintro _ w2 ⟨rfl, he2⟩
    go_wp2
    go_ret
    exact ⟨rfl, (eb.trans ex).trans he2⟩
  · rw [stepR6 hk j hl]
    obtain ⟨bn, on, rfl, hbn, hcn⟩ := HSN.out.at j hl
    replace hcn := fun w' (e : Ext W0 w') => hcn w' (eb.trans e)
    have q5 : (r.kind == 5) = false := by rw [hk]; rfl
    have q6 : (r.kind == 6) = true := by rw [hk]; rfl
    have d1 : decide ((j : Int) < (r.names.length : Int)) = true := decide_eq_true (by omega)
    have hl2 : (j : Int) < (r.names.length : Int) := by omega
    generalize r.names[j] = t at *
    clear hk HSN
    go_enter Tryz.func70, Tryz.ntmps70
    go_wp2_with fail
    rw [← HW0.out]
    refine (CK.out _ (HD.out.ext eb)).mono ?_; rintro _ w1 ⟨rfl, he1⟩
    have ex := he1.trans (Ext_alloc (.cells #[.string r.nm, .int .i64 r.kind, .int .i64 r.size, .bool r.little, .slice Ab r.bytes.length cb, .slice (some ⟨bn, on, none⟩) r.names.length cn, .slice At r.tags.length ct, .slice Ak r.kids.length ck] 97) (Ext.refl w1))
    go_wp2
    go_ret
    exact ⟨rfl, eb.trans ex⟩
  · rw [stepR7 hk]
    have q5 : (r.kind == 5) = false := by rw [hk]; rfl
    have q6 : (r.kind == 6) = false := by rw [hk]; rfl
    have q7 : (r.kind == 7) = true := by rw [hk]; rfl
    clear hk HSN
    go_enter Tryz.func70, Tryz.ntmps70
    go_wp2_with fail
    rw [← HW0.out]
    refine (CK.out _ (HD.out.ext eb)).mono ?_; rintro _ w1 ⟨rfl, he1⟩
    have ex := he1.trans (Ext_alloc (.cells #[.string r.nm, .int .i64 r.kind, .int .i64 r.size, .bool r.little, .slice Ab r.bytes.length cb, .slice An r.names.length cn, .slice At r.tags.length ct, .slice Ak r.kids.length ck] 97) (Ext.refl w1))
    go_wp2
    go_ret
    exact ⟨rfl, eb.trans ex⟩
  · rw [stepR8 hk]
    have q5 : (r.kind == 5) = false := by rw [hk]; rfl
    have q6 : (r.kind == 6) = false := by rw [hk]; rfl
    have q7 : (r.kind == 7) = false := by rw [hk]; rfl
    have q8 : (r.kind == 8) = true := by rw [hk]; rfl
    clear hk HSN
    go_enter Tryz.func70, Tryz.ntmps70
    go_wp2_with fail
    rw [← HW0.out]
    refine (CK.out _ (HD.out.ext eb)).mono ?_; rintro _ w1 ⟨rfl, he1⟩
    have ex := he1.trans (Ext_alloc (.cells #[.string r.nm, .int .i64 r.kind, .int .i64 r.size, .bool r.little, .slice Ab r.bytes.length cb, .slice An r.names.length cn, .slice At r.tags.length ct, .slice Ak r.kids.length ck] 97) (Ext.refl w1))
    go_wp2
    go_ret
    exact ⟨rfl, eb.trans ex⟩
  · rw [stepR9 hk]
    have q5 : (r.kind == 5) = false := by rw [hk]; rfl
    have q6 : (r.kind == 6) = false := by rw [hk]; rfl
    have q7 : (r.kind == 7) = false := by rw [hk]; rfl
    have q8 : (r.kind == 8) = false := by rw [hk]; rfl
    have q9 : (r.kind == 9) = true := by rw [hk]; rfl
    clear hk HSN
    go_enter Tryz.func70, Tryz.ntmps70
    go_wp2_with fail
    rw [← HW0.out]
    refine (CK.out _ (HD.out.ext eb)).mono ?_; rintro _ w1 ⟨rfl, he1⟩
    have ex := he1.trans (Ext_alloc (.cells #[.string r.nm, .int .i64 r.kind, .int .i64 r.size, .bool r.little, .slice Ab r.bytes.length cb, .slice An r.names.length cn, .slice At r.tags.length ct, .slice Ak r.kids.length ck] 97) (Ext.refl w1))
    go_wp2
    go_ret
    exact ⟨rfl, eb.trans ex⟩
end Go.Proofs.YtjckcbfpejcpcaaGreatDoor

/- l9Valid and IsValidValue of the reference. -/
set_option linter.unusedSimpArgs false
set_option linter.unusedVariables false
namespace Go.Proofs.YtjckcbfpejcpcaaGreatDoor
open Go.RowKit Go.Sort

theorem sOwn_c (A : Option Addr) (ds : List DRule) (c : Nat) (i : Nat) (hi : i < ds.length) (Ab : Option Addr) (cb : Nat) (An : Option Addr) (cn : Nat) (At : Option Addr) (ct : Nat) (Ak : Option Addr) (ck : Nat) (v : DVal) (Vb : Option Addr) (vb : Nat) (Vi : Option Addr) (vi : Nat) (w : World) (hok : descOk ds = true) (hd : RdD w A ds c) (h : RdS w ds[i] Ab cb An cn At ct Ak ck) (hb : v.bytes.length ≤ 9223372036854775807) (hm : v.items.length ≤ 9223372036854775807) :
    Gives Tryz.prog 82 #[vdesc (.slice A ds.length c), vrule ds[i] (.slice Ab ds[i].bytes.length cb) (.slice An ds[i].names.length cn) (.slice At ds[i].tags.length ct) (.slice Ak ds[i].kids.length ck), vval v (.slice Vb v.bytes.length vb) (.slice Vi v.items.length vi)] w (.bool (ownV ds ds[i] v.num v.bytes.length v.items.length)) := by
  obtain ⟨k4, k5, k6, k7, k8, k1, k3⟩ := kids_len hok i hi
  have hk := (ruleFacts hok i hi).kind
  have hkn := kd_int hok i hi
  rcases (by omega : ds[i].kind = 1 ∨ ds[i].kind = 2 ∨ ds[i].kind = 3 ∨ ds[i].kind = 4 ∨ ds[i].kind = 5 ∨ ds[i].kind = 6 ∨ ds[i].kind = 7 ∨ ds[i].kind = 8 ∨ ds[i].kind = 9 ∨ ds[i].kind = 10) with e | e | e | e | e | e | e | e | e | e
  · exact sOwn_1 A ds c _ Ab cb An cn At ct Ak ck v Vb vb Vi vi w hd h hb hm e (k1 e)
  · exact sOwn_2 A ds c _ Ab cb An cn At ct Ak ck v Vb vb Vi vi w hd h hb hm e
  · exact sOwn_3 A ds c _ Ab cb An cn At ct Ak ck v Vb vb Vi vi w hd h hb hm e
  · exact sOwn_4 A ds c _ Ab cb An cn At ct Ak ck v Vb vb Vi vi w hd h hb hm e (by have := (k4 e).1; omega)
  · exact sOwn_5 A ds c _ Ab cb An cn At ct Ak ck v Vb vb Vi vi w hd h hb hm e (by have := (k5 e).1; omega)
  · exact sOwn_6 A ds c _ Ab cb An cn At ct Ak ck v Vb vb Vi vi w hd h hb hm e
  · exact sOwn_7 A ds c _ Ab cb An cn At ct Ak ck v Vb vb Vi vi w hd h hb hm e (k7 e).1 hkn
  · exact sOwn_8 A ds c _ Ab cb An cn At ct Ak ck v Vb vb Vi vi w hd h hb hm e
  · exact sOwn_9 A ds c _ Ab cb An cn At ct Ak ck v Vb vb Vi vi w hd h hb hm e
  · exact sOwn_10 A ds c _ Ab cb An cn At ct Ak ck v Vb vb Vi vi w hd h hb hm e
/-- l9Valid at a value, whatever the rule -/
def sValOk (A : Option Addr) (ds : List DRule) (c : Nat) (v : DVal) : Prop := ∀ (i : Nat) (_ : i < ds.length) (Vb : Option Addr) (vb : Nat) (Vi : Option Addr) (vi : Nat) (w : World), RdD w A ds c → RdV w v Vb vb Vi vi →
  Gives Tryz.prog 51 #[vdesc (.slice A ds.length c), .int .i64 (i : Int), vval v (.slice Vb v.bytes.length vb) (.slice Vi v.items.length vi)] w (.bool (validV ds i v))
set_option maxRecDepth 100000 in
set_option maxHeartbeats 8000000 in
theorem sVal_of (A : Option Addr) (ds : List DRule) (c : Nat) (hok : descOk ds = true) (v : DVal) (H : ∀ x ∈ v.items, sValOk A ds c x) : sValOk A ds c v := by
  intro i hi Vb vb Vi vi w hd hv
  have hl := hd.len
  have HOK := Lib.hid hok
  obtain ⟨b, ro, Ab, cb, An, cn, At, ct, Ak, ck, hA, hbb, hS, hR⟩ := hd.at i hi
  have hbl := hv.b.len; have hil := hv.i.len
  have CO := Lib.hid (fun w h1 h2 => sOwn_c A ds c i hi Ab cb An cn At ct Ak ck v Vb vb Vi vi w hok h1 h2 hbl hil)
  have NO0 : Hid (ownV ds ds[i] v.num v.bytes.length v.items.length = false → validV ds i v = false) := fun h => validV_own (hi := hi) h
  have NO1 : Hid (∀ j (hj : j < v.items.length), validV ds (kidV ds[i] v.num j) v.items[j] = false → validV ds i v = false) := fun j hj h => validV_no (hi := hi) hj h
  have YES : Hid (ownV ds ds[i] v.num v.bytes.length v.items.length = true → (∀ j (hj : j < v.items.length), validV ds (kidV ds[i] v.num j) v.items[j] = true) → validV ds i v = true) := fun h1 h2 => validV_yes (hi := hi) h1 h2
  have IT : Hid (ownV ds ds[i] v.num v.bytes.length v.items.length = true → ∀ j, j < v.items.length → kidV ds[i] v.num j < i ∧ ItemAt ds[i] v.num j) := fun h j hj => own_item hok i hi h hj
  have H7 : Hid (ds[i].kind = 7 → ds[i].kids.length = ds[i].tags.length + 1) := fun h => ((kids_len hok i hi).2.2.2.1 h).1
  have HKN := Lib.hid (kd_int hok i hi)
  have HD := Lib.hid hd; have HV := Lib.hid hv; have HS := Lib.hid hS
  have HH := Lib.hid H
  clear hok H hd hv hS
  obtain ⟨W0, HW0, BA, BV, BR, eA, hsA⟩ := boxes3' w #[.slice A ds.length c] #[.int .i64 v.num, .slice Vb v.bytes.length vb, .slice Vi v.items.length vi] #[.string ds[i].nm, .int .i64 ds[i].kind, .int .i64 ds[i].size, .bool ds[i].little, .slice Ab ds[i].bytes.length cb, .slice An ds[i].names.length cn, .slice At ds[i].tags.length ct, .slice Ak ds[i].kids.length ck] 35 39 97
  have B0 := BA.at 0; have B1 := BV.at; have B2 := BR.at
  simp only [List.getElem?_toArray, List.getElem?_cons_zero] at B0
  clear BA BV BR
  unfold vdesc vval
  obtain ⟨k0, k1, k2, k3, k4, k5, k6, k7⟩ := hR
  have CX : Hid (∀ j, ItemAt ds[i] v.num j → j ≤ 9223372036854775807 → ∀ w', Ext W0 w' → Gives Tryz.prog 57 #[.agg #[.string ds[i].nm, .int .i64 ds[i].kind, .int .i64 ds[i].size, .bool ds[i].little, .slice Ab ds[i].bytes.length cb, .slice An ds[i].names.length cn, .slice At ds[i].tags.length ct, .slice Ak ds[i].kids.length ck], .int .i64 v.num, .int .i64 (j : Int)] w' (.int .i64 (kidV ds[i] v.num j : Nat))) :=
    fun j hj hjl w' e => sItemV_c ds[i] Ab cb An cn At ct Ak ck v.num j w' (HS.out.ext (eA.trans e)) hjl hj H7.out HKN.out
  unfold vdesc vval vrule at CO
  generalize hKV : (fun j => kidV ds[i] v.num j) = KV at *
  have hKV' : ∀ j, kidV ds[i] v.num j = KV j := fun j => by rw [← hKV]
  simp only [hKV'] at NO1 YES IT CX
  clear hKV hKV' H7 HKN
  subst hA
  generalize ownV ds ds[i] v.num v.bytes.length v.items.length = z at *
  generalize ds[i] = r at *
  cases z
  · have E := Lib.hid (NO0.out rfl)
    rw [E.out]
    clear NO0 NO1 YES IT CX E
    go_enter Tryz.func51, Tryz.ntmps51
    go_wp2_with fail
    rw [← HW0.out]
    refine (CO.out _ (HD.out.ext eA) (HS.out.ext eA)).mono ?_; rintro _ w1 ⟨rfl, he1⟩
    go_wp2
    go_ret
    exact ⟨rfl, eA.trans he1⟩
  · have IT' := Lib.hid (IT.out rfl); have YES' := Lib.hid (YES.out rfl)
    clear NO0 YES IT
    generalize hR : validV ds i v = R at *
    have HR := Lib.hid hR; clear hR
    go_enter Tryz.func51, Tryz.ntmps51
    go_wp2_with fail
    rw [← HW0.out]
    refine (CO.out _ (HD.out.ext eA) (HS.out.ext eA)).mono ?_; rintro _ w1 ⟨rfl, he1⟩
    clear CO k0 k1 k2 k3 k4 k5 k6 k7
    go_wp2
    go_loopw [8] (fun ix wr => ∃ k : Nat, k ≤ v.items.length ∧ ix = .int .i64 k ∧ Hid (∀ j (hj : j < v.items.length), j < k → validV ds (KV j) v.items[j] = true) ∧ Ext W0 wr) (fun ix _ => v.items.length - (intOf ix).toNat)
    case atStart => exact ⟨0, by omega, rfl, (fun j _ hj => by omega), he1⟩
    case round =>
      obtain ⟨k, hk, rfl, ht, he⟩ := hrel
      by_cases hlt : k < v.items.length
      · obtain ⟨bb, off, A1, c1, D1, d1, hVi, hb, hs, hr⟩ := HV.out.i.at k hlt
        subst hVi
        have Hk := HH.out _ (List.getElem_mem hlt)
        obtain ⟨hkl, hat⟩ := IT'.out k hlt
        have CE := Lib.hid (fun w' (e : Ext W0 w') => Hk (KV k) (by omega) A1 c1 D1 d1 w' (HD.out.ext (eA.trans e)) (hs.ext (eA.trans e)))
        have CJ := Lib.hid (CX.out k hat (by omega))
        have NO : Hid (validV ds (KV k) v.items[k] = false → R = false) := fun h => NO1.out k hlt h
        have YE : Hid (validV ds (KV k) v.items[k] = true → ∀ j (h1 : j < v.items.length), j < k + 1 → validV ds (KV j) v.items[j] = true) := by
          intro hy j h1 hj
          rcases (by omega : j < k ∨ j = k) with hj | rfl
          · exact ht.out j h1 hj
          · exact hy
        generalize hX : v.items[k] = x at *
        clear hX
        generalize hY : KV k = y at *
        clear hY hkl hat Hk hs
        generalize validV ds y x = zz at *
        obtain ⟨j0, j1, j2⟩ := hr
        replace j0 := fun w' (e : Ext W0 w') => j0 w' (eA.trans e)
        replace j1 := fun w' (e : Ext W0 w') => j1 w' (eA.trans e)
        replace j2 := fun w' (e : Ext W0 w') => j2 w' (eA.trans e)
        unfold vdesc vval at CE
        have hkk : (0 : Int) ≤ (k : Int) := by omega
        have hkl : (k : Int) < (v.items.length : Int) := by omega
        have HT := ht; clear ht
        go_wp2_with fail
        refine wp_region_quiet_below (by kernel_rfl) (by kernel_rfl) ?_
        repeat (go_big_quiet_step ((first | (go_at_call 57; exact Calls.regrown_of (CJ.out _ (Ext.trans he (by first | assumption | exact Ext_regrown _ _ (Ext.refl _))))) | (go_at_call 51; exact Calls.regrown_of (CE.out _ (Ext.trans he (by first | assumption | exact Ext_regrown _ _ (Ext.refl _))))))))
        refine wpQuiet_nil ?_
        rintro w2 ⟨⟨nq, osq⟩, hq⟩
        have ew2 := ext_of_q hq
        clear hq nq osq
        have he2 := he.trans ew2
        cases zz
        · have NO' := Lib.hid (NO.out rfl); clear NO YE
          go_wp2
          go_ret
          exact ⟨ret_bool NO'.out.symm, eA.trans he2⟩
        · have YE' := Lib.hid (YE.out rfl); clear NO YE
          go_wp2
          go_roundw
          case rel => exact ⟨k+1, by omega, by go_num, YE'.out, he2⟩
          case measure => simp [intOf]; omega
      · have hk' : k = v.items.length := by omega
        have HE : Hid (R = true) := YES'.out (fun j hj => ht.out j hj (by omega))
        go_wp2
        go_ret
        exact ⟨ret_bool HE.out.symm, eA.trans he⟩
theorem sVal_all (A : Option Addr) (ds : List DRule) (c : Nat) (hok : descOk ds = true) : ∀ v, sValOk A ds c v := fun v => DVal.ind (sVal_of A ds c hok) v
/-- a value of a rule that is there, in a description that is valid -/
def validB (ds : List DRule) (i : Int) (v : DVal) : Bool := knownB ds i && validV ds i.toNat v
end Go.Proofs.YtjckcbfpejcpcaaGreatDoor

/- Comparison of values: of the laws, of the reference and of the program. -/
namespace Go.Proofs.YtjckcbfpejcpcaaGreatDoor
open Go.RowKit Go.Sort

noncomputable def eqVs (a b : List DVal) : Bool := decide (a = b)
theorem eqVs_len {a b : List DVal} (h : a.length ≠ b.length) : eqVs a b = false := by unfold eqVs; rw [decide_eq_false_iff_not]; rintro rfl; exact h rfl
theorem eqVs_at {a b : List DVal} {k : Nat} (h1 : k < a.length) (h2 : k < b.length) (h : eqV a[k] b[k] = false) : eqVs a b = false := by
  unfold eqVs; rw [decide_eq_false_iff_not]; rintro rfl; rw [eqV_refl] at h; cases h
theorem eqVs_all {a b : List DVal} (hl : a.length = b.length) (h : ∀ j (h1 : j < a.length) (h2 : j < b.length), eqV a[j] b[j] = true) : eqVs a b = true := by
  unfold eqVs; rw [decide_eq_true_eq]; exact List.ext_getElem hl (fun i h1 h2 => eqV_iff.1 (h i h1 h2))
theorem eqVs_refl (a : List DVal) : eqVs a a = true := by unfold eqVs; simp
theorem eqV_num {a b : DVal} (h : (a.num != b.num) = true) : eqV a b = false := eqV_no (by rintro rfl; simp at h)
theorem eqV_bytes {a b : DVal} (h : (a.bytes == b.bytes) = false) : eqV a b = false := eqV_no (by rintro rfl; simp at h)
theorem eqV_items {a b : DVal} (h : eqVs a.items b.items = false) : eqV a b = false := eqV_no (by rintro rfl; rw [eqVs_refl] at h; cases h)
theorem eqV_parts {a b : DVal} (h1 : (a.num != b.num) = false) (h2 : (a.bytes == b.bytes) = true) (h3 : eqVs a.items b.items = true) : eqV a b = true := by
  rw [eqV_iff]; exact DVal.ext' (by simpa using h1) (by simpa using h2) (by unfold eqVs at h3; simpa using h3)
theorem Rd0.bs {w : World} {A : Option Addr} {l : List UInt8} {c : Nat} (h : Rd0 vu8 w A l c) {n : Nat} (hn : l.length ≤ n) (hm : n ≤ 140737488351232) : Bs w A l c := ⟨h, by omega⟩
def EqOk (a : DVal) : Prop := ∀ (b : DVal) (Ab : Option Addr) (cb : Nat) (Ai : Option Addr) (ci : Nat) (Ab' : Option Addr) (cb' : Nat) (Ai' : Option Addr) (ci' : Nat) (w : World), RdV w a Ab cb Ai ci → RdV w b Ab' cb' Ai' ci' → szV a ≤ 140737488351232 → szV b ≤ 140737488351232 →
  Gives Tryz.prog 13 #[vval a (.slice Ab a.bytes.length cb) (.slice Ai a.items.length ci), vval b (.slice Ab' b.bytes.length cb') (.slice Ai' b.items.length ci')] w (.bool (eqV a b))
set_option maxRecDepth 100000 in
set_option maxHeartbeats 4000000 in
theorem eqValueS_of (A A' : Option Addr) (ds es : List DVal) (c c' : Nat) (w : World) (h : RdVs w A ds c) (h' : RdVs w A' es c') (H : ∀ x ∈ ds, EqOk x) (hs : szVs ds ≤ 140737488351232) (hs' : szVs es ≤ 140737488351232) :
    Gives Tryz.prog 41 #[.slice A ds.length c, .slice A' es.length c'] w (.bool (eqVs ds es)) := by
  have hl := h.len; have hl' := h'.len
  have eb := Ext.refl w
  have HH := Lib.hid H; clear H
  have HS1 : Hid (∀ x ∈ ds, szV x ≤ 140737488351232) := fun x hx => by have := szVs_mem hx; omega
  have HS2 : Hid (∀ x ∈ es, szV x ≤ 140737488351232) := fun x hx => by have := szVs_mem hx; omega
  clear hs hs'
  by_cases hn : ds.length = es.length
  · have hb1 : ((ds.length : Int) != (es.length : Int)) = false := by simp [hn]
    have H := Lib.hid hn; clear hn
    go_enter Tryz.func41, Tryz.ntmps41
    go_wp2
    go_loopw [5] (fun i wr => ∃ k : Nat, k ≤ ds.length ∧ i = .int .i64 k ∧ Hid (∀ j (h1 : j < ds.length) (h2 : j < es.length), j < k → eqV ds[j] es[j] = true) ∧ Ext w wr) (fun i _ => ds.length - (intOf i).toNat)
    case atStart => exact ⟨0, by omega, rfl, (fun j _ _ hj => by omega), Ext.refl _⟩
    case round =>
      obtain ⟨k, hk, rfl, ht, he⟩ := hrel
      by_cases hlt : k < ds.length
      · have hlt' : k < es.length := by have := H.out; omega
        obtain ⟨b, off, A1, c1, B1, d1, rfl, hb, hS, k0, k1, k2⟩ := h.at k hlt
        obtain ⟨b', off', A1', c1', B1', d1', rfl, hb', hS', j0, j1, j2⟩ := h'.at k hlt'
        have s1 := HS1.out _ (List.getElem_mem hlt); have s2 := HS2.out _ (List.getElem_mem hlt')
        have NO : Hid (eqV ds[k] es[k] = false → eqVs ds es = false) := eqVs_at hlt hlt'
        have YES : Hid (eqV ds[k] es[k] = true → ∀ j (h1 : j < ds.length) (h2 : j < es.length), j < k + 1 → eqV ds[j] es[j] = true) := by
          intro hy j h1 h2 hj
          rcases (by omega : j < k ∨ j = k) with hj | rfl
          · exact ht.out j h1 h2 hj
          · exact hy
        have Hk := HH.out _ (List.getElem_mem hlt)
        generalize ds[k] = r at *
        generalize es[k] = q at *
        have CE := Lib.hid (fun w h h' => Hk q A1 c1 B1 d1 A1' c1' B1' d1' w h h' s1 s2)
        generalize eqV r q = z at *
        unfold vval at CE
        have H1 := Lib.hid (fun w' (e : Ext _ w') => hS.ext (eb.trans e)); have H2 := Lib.hid (fun w' (e : Ext _ w') => hS'.ext (eb.trans e))
        clear h h' s1 s2 hS hS' Hk
        have HT := ht; clear ht
        go_wp2_with fail
        refine wp_region_quiet_below (by kernel_rfl) (by kernel_rfl) ?_
        repeat (go_big_quiet_step ((go_at_call 13; exact Calls.regrown_of (CE.out _ (H1.out _ (by first | assumption | exact Ext_regrown _ _ he)) (H2.out _ (by first | assumption | exact Ext_regrown _ _ he))))))
        refine wpQuiet_nil ?_
        rintro w1 ⟨⟨nq, osq⟩, hq⟩
        have ew1 := ext_of_q hq
        clear hq nq osq
        have he1 := he.trans ew1
        cases z
        · have NO' := Lib.hid (NO.out rfl); clear NO YES
          go_wp2
          go_ret
          exact ⟨ret_bool NO'.out.symm, eb.trans he1⟩
        · have YES' := Lib.hid (YES.out rfl); clear NO YES
          go_wp2
          go_roundw
          case rel => exact ⟨k+1, by omega, by go_num, YES'.out, he1⟩
          case measure => simp [intOf]; omega
      · have hk' : k = ds.length := by omega
        have HE : Hid (eqVs ds es = true) := eqVs_all H.out (fun j h1 h2 => ht.out j h1 h2 (by omega))
        go_wp2
        go_ret
        exact ⟨ret_bool HE.out.symm, eb.trans he⟩
  · have hb1 : ((ds.length : Int) != (es.length : Int)) = true := by simp; omega
    have HE : Hid (eqVs ds es = false) := eqVs_len hn
    go_enter Tryz.func41, Tryz.ntmps41
    go_wp2
    go_ret
    exact ⟨ret_bool HE.out.symm, eb⟩
set_option maxRecDepth 100000 in
set_option maxHeartbeats 4000000 in
theorem eqValue_of (a : DVal) (H : ∀ x ∈ a.items, EqOk x) : EqOk a := by
  intro b Ab cb Ai ci Ab' cb' Ai' ci' w h h' hs hs'
  have C1 := Lib.hid (fun w h h' => eqByteS_c Ab Ab' a.bytes b.bytes cb cb' w h h')
  have C2 := Lib.hid (fun w h h' => eqValueS_of Ai Ai' a.items b.items ci ci' w h h' H (by have := szVs_le_szV a; omega) (by have := szVs_le_szV b; omega))
  have h1 : Bs w Ab a.bytes cb := h.b.bs (bytes_le a) hs
  have h1' : Bs w Ab' b.bytes cb' := h'.b.bs (bytes_le b) hs'
  have h2 := h.i; have h2' := h'.i
  have E1 : Hid ((a.num != b.num) = true → eqV a b = false) := eqV_num
  have E2 : Hid ((a.bytes == b.bytes) = false → eqV a b = false) := eqV_bytes
  have E3 : Hid (eqVs a.items b.items = false → eqV a b = false) := eqV_items
  have E4 : Hid ((a.num != b.num) = false → (a.bytes == b.bytes) = true → eqVs a.items b.items = true → eqV a b = true) := eqV_parts
  have eb := Ext_alloc (.cells #[.int .i64 b.num, .slice Ab' b.bytes.length cb', .slice Ai' b.items.length ci'] 39) (Ext_alloc (.cells #[.int .i64 a.num, .slice Ab a.bytes.length cb, .slice Ai a.items.length ci] 39) (Ext.refl w))
  have BX := fun w' (e : Ext ((w.alloc (.cells #[.int .i64 a.num, .slice Ab a.bytes.length cb, .slice Ai a.items.length ci] 39)).alloc (.cells #[.int .i64 b.num, .slice Ab' b.bytes.length cb', .slice Ai' b.items.length ci'] 39)) w') => boxed2 e
  have B0 := fun w' e => (BX w' e).1
  have B1 := fun w' e => (BX w' e).2.1
  clear BX h h' H hs hs'
  unfold vval
  generalize (a.bytes == b.bytes) = z1 at *
  generalize eqVs a.items b.items = z2 at *
  generalize hz : eqV a b = z at *
  clear hz
  cases hq : (a.num != b.num)
  · rw [hq] at E1 E4
    have hq' := Lib.hid hq
    cases z1
    · have E := Lib.hid (E2.out rfl); clear E1 E2 E3 E4
      go_enter Tryz.func13, Tryz.ntmps13
      go_wp2_with fail
      refine (C1.out _ (h1.ext eb) (h1'.ext eb)).mono ?_; rintro _ w1 ⟨rfl, he1⟩
      go_wp2
      go_ret
      exact ⟨ret_bool E.out.symm, eb.trans he1⟩
    · cases z2
      · have E := Lib.hid (E3.out rfl); clear E1 E2 E3 E4
        go_enter Tryz.func13, Tryz.ntmps13
        go_wp2_with fail
        refine (C1.out _ (h1.ext eb) (h1'.ext eb)).mono ?_; rintro _ w1 ⟨rfl, he1⟩
        have e1 := eb.trans he1
        replace B0 := fun w' (e : Ext w1 w') => B0 w' (he1.trans e)
        replace B1 := fun w' (e : Ext w1 w') => B1 w' (he1.trans e)
        clear eb he1
        go_wp2_with fail
        refine (C2.out _ (h2.ext e1) (h2'.ext e1)).mono ?_; rintro _ w2 ⟨rfl, he2⟩
        go_wp2
        go_ret
        exact ⟨ret_bool E.out.symm, e1.trans he2⟩
      · have E := Lib.hid (E4.out rfl rfl rfl); clear E1 E2 E3 E4
        go_enter Tryz.func13, Tryz.ntmps13
        go_wp2_with fail
        refine (C1.out _ (h1.ext eb) (h1'.ext eb)).mono ?_; rintro _ w1 ⟨rfl, he1⟩
        have e1 := eb.trans he1
        replace B0 := fun w' (e : Ext w1 w') => B0 w' (he1.trans e)
        replace B1 := fun w' (e : Ext w1 w') => B1 w' (he1.trans e)
        clear eb he1
        go_wp2_with fail
        refine (C2.out _ (h2.ext e1) (h2'.ext e1)).mono ?_; rintro _ w2 ⟨rfl, he2⟩
        go_wp2
        go_ret
        exact ⟨ret_bool E.out.symm, e1.trans he2⟩
  · have E := Lib.hid (E1.out hq); clear E1 E2 E3 E4 C1 C2
    go_enter Tryz.func13, Tryz.ntmps13
    go_wp2
    go_ret
    exact ⟨ret_bool E.out.symm, eb⟩
theorem eqOk_all : ∀ v, EqOk v := fun v => DVal.ind eqValue_of v
end Go.Proofs.YtjckcbfpejcpcaaGreatDoor

/- EqualValues of the reference and of the program. -/
namespace Go.Proofs.YtjckcbfpejcpcaaGreatDoor
open Go.RowKit Go.Sort

theorem eqV_count {a b : DVal} (h : a.items.length ≠ b.items.length) : eqV a b = false := eqV_no (by rintro rfl; exact h rfl)
theorem eqV_item {a b : DVal} {k : Nat} (h1 : k < a.items.length) (h2 : k < b.items.length) (h : eqV a.items[k] b.items[k] = false) : eqV a b = false := eqV_no (by rintro rfl; rw [eqV_refl] at h; cases h)
theorem eqV_all {a b : DVal} (h1 : (a.num != b.num) = false) (h2 : (a.bytes == b.bytes) = true) (hl : a.items.length = b.items.length) (h : ∀ j (h1 : j < a.items.length) (h2 : j < b.items.length), eqV a.items[j] b.items[j] = true) : eqV a b = true :=
  eqV_parts h1 h2 (eqVs_all hl h)
def sEqVOk (a : DVal) : Prop := ∀ (b : DVal) (Ab : Option Addr) (cb : Nat) (Ai : Option Addr) (ci : Nat) (Ab' : Option Addr) (cb' : Nat) (Ai' : Option Addr) (ci' : Nat) (w : World), RdV w a Ab cb Ai ci → RdV w b Ab' cb' Ai' ci' → szV a ≤ 140737488351232 → szV b ≤ 140737488351232 →
  Gives Tryz.prog 24 #[vval a (.slice Ab a.bytes.length cb) (.slice Ai a.items.length ci), vval b (.slice Ab' b.bytes.length cb') (.slice Ai' b.items.length ci')] w (.bool (eqV a b))
set_option maxRecDepth 100000 in
set_option maxHeartbeats 8000000 in
theorem sEqV_of (a : DVal) (H : ∀ x ∈ a.items, sEqVOk x) : sEqVOk a := by
  intro b Ab cb Ai ci Ab' cb' Ai' ci' w h h' hs hs'
  have C1 := Lib.hid (fun w h h' => sEqualBytes_c Ab Ab' a.bytes b.bytes cb cb' w h h')
  have h1 : Bs w Ab a.bytes cb := h.b.bs (bytes_le a) hs
  have h1' : Bs w Ab' b.bytes cb' := h'.b.bs (bytes_le b) hs'
  have hi := h.i; have hi' := h'.i
  have hl := hi.len; have hl' := hi'.len
  have HH := Lib.hid H
  have HS1 : Hid (∀ x ∈ a.items, szV x ≤ 140737488351232) := fun x hx => by have := szV_item hx; omega
  have HS2 : Hid (∀ x ∈ b.items, szV x ≤ 140737488351232) := fun x hx => by have := szV_item hx; omega
  have eb := Ext_alloc (.cells #[.int .i64 b.num, .slice Ab' b.bytes.length cb', .slice Ai' b.items.length ci'] 39) (Ext_alloc (.cells #[.int .i64 a.num, .slice Ab a.bytes.length cb, .slice Ai a.items.length ci] 39) (Ext.refl w))
  have BX := fun w' (e : Ext ((w.alloc (.cells #[.int .i64 a.num, .slice Ab a.bytes.length cb, .slice Ai a.items.length ci] 39)).alloc (.cells #[.int .i64 b.num, .slice Ab' b.bytes.length cb', .slice Ai' b.items.length ci'] 39)) w') => boxed2 e
  have B0 := fun w' e => (BX w' e).1
  have B1 := fun w' e => (BX w' e).2.1
  clear BX h h' H hs hs'
  unfold vval
  cases hq : (a.num != b.num)
  · have HQ := Lib.hid hq
    cases hz : (a.bytes == b.bytes)
    · have E := Lib.hid (eqV_bytes hz)
      rw [hz] at C1
      clear hz
      go_enter Tryz.func24, Tryz.ntmps24
      go_wp2_with fail
      refine (C1.out _ (h1.ext eb) (h1'.ext eb)).mono ?_; rintro _ w1 ⟨rfl, he1⟩
      go_wp2
      go_ret
      exact ⟨ret_bool E.out.symm, eb.trans he1⟩
    · have HZ := Lib.hid hz
      rw [hz] at C1
      clear hz
      by_cases hn : a.items.length = b.items.length
      · have hb1 : ((a.items.length : Int) != (b.items.length : Int)) = false := by simp [hn]
        have H := Lib.hid hn
        clear hn
        go_enter Tryz.func24, Tryz.ntmps24
        go_wp2_with fail
        refine (C1.out _ (h1.ext eb) (h1'.ext eb)).mono ?_; rintro _ w1 ⟨rfl, he1⟩
        have e1 := eb.trans he1
        replace B0 := fun w' (e : Ext w1 w') => B0 w' (he1.trans e)
        replace B1 := fun w' (e : Ext w1 w') => B1 w' (he1.trans e)
        clear eb he1
        have n0 := fun w' e => B0 w' e 2
        have n1 := fun w' e => B1 w' e 2
        simp only [List.getElem?_toArray, List.getElem?_cons_zero, List.getElem?_cons_succ] at n0 n1
        clear B0 B1 h1 h1' C1
        go_wp2
        go_loopw [5] (fun i wr => ∃ k : Nat, k ≤ a.items.length ∧ i = .int .i64 k ∧ Hid (∀ j (h1 : j < a.items.length) (h2 : j < b.items.length), j < k → eqV a.items[j] b.items[j] = true) ∧ Ext w1 wr) (fun i _ => a.items.length - (intOf i).toNat)
        case atStart => exact ⟨0, by omega, rfl, (fun j _ _ hj => by omega), Ext.refl _⟩
        case round =>
          obtain ⟨k, hk, rfl, ht, he⟩ := hrel
          by_cases hlt : k < a.items.length
          · have hlt' : k < b.items.length := by have := H.out; omega
            obtain ⟨bb, off, A1, c1, D1, d1, rfl, hb, hS, k0, k1, k2⟩ := hi.at k hlt
            obtain ⟨bb', off', A1', c1', D1', d1', rfl, hb', hS', j0, j1, j2⟩ := hi'.at k hlt'
            replace k0 := fun w' (e : Ext w1 w') => k0 w' (e1.trans e)
            replace k1 := fun w' (e : Ext w1 w') => k1 w' (e1.trans e)
            replace k2 := fun w' (e : Ext w1 w') => k2 w' (e1.trans e)
            replace j0 := fun w' (e : Ext w1 w') => j0 w' (e1.trans e)
            replace j1 := fun w' (e : Ext w1 w') => j1 w' (e1.trans e)
            replace j2 := fun w' (e : Ext w1 w') => j2 w' (e1.trans e)
            have s1 := HS1.out _ (List.getElem_mem hlt); have s2 := HS2.out _ (List.getElem_mem hlt')
            have NO : Hid (eqV a.items[k] b.items[k] = false → eqV a b = false) := eqV_item hlt hlt'
            have YES : Hid (eqV a.items[k] b.items[k] = true → ∀ j (h1 : j < a.items.length) (h2 : j < b.items.length), j < k + 1 → eqV a.items[j] b.items[j] = true) := by
              intro hy j h1 h2 hj
              rcases (by omega : j < k ∨ j = k) with hj | rfl
              · exact ht.out j h1 h2 hj
              · exact hy
            have Hk := HH.out _ (List.getElem_mem hlt)
            generalize a.items[k] = r at *
            generalize b.items[k] = q at *
            have CE := Lib.hid (fun w h h' => Hk q A1 c1 D1 d1 A1' c1' D1' d1' w h h' s1 s2)
            generalize eqV r q = z at *
            unfold vval at CE
            have H1 := Lib.hid (fun w' (e : Ext w1 w') => hS.ext (e1.trans e)); have H2 := Lib.hid (fun w' (e : Ext w1 w') => hS'.ext (e1.trans e))
            clear s1 s2 hS hS' Hk hi hi'
            have HT := ht; clear ht
            go_wp2_with fail
            refine wp_region_quiet_below (by kernel_rfl) (by kernel_rfl) ?_
            repeat (go_big_quiet_step ((go_at_call 24; exact Calls.regrown_of (CE.out _ (H1.out _ (by first | assumption | exact Ext_regrown _ _ he)) (H2.out _ (by first | assumption | exact Ext_regrown _ _ he))))))
            refine wpQuiet_nil ?_
            rintro w2 ⟨⟨nq, osq⟩, hq⟩
            have ew2 := ext_of_q hq
            clear hq nq osq
            have he1 := he.trans ew2
            cases z
            · have NO' := Lib.hid (NO.out rfl); clear NO YES
              go_wp2
              go_ret
              exact ⟨ret_bool NO'.out.symm, e1.trans he1⟩
            · have YES' := Lib.hid (YES.out rfl); clear NO YES
              go_wp2
              go_roundw
              case rel => exact ⟨k+1, by omega, by go_num, YES'.out, he1⟩
              case measure => simp [intOf]; omega
          · have hk' : k = a.items.length := by omega
            have HE : Hid (eqV a b = true) := eqV_all HQ.out HZ.out H.out (fun j h1 h2 => ht.out j h1 h2 (by omega))
            go_wp2
            go_ret
            exact ⟨ret_bool HE.out.symm, e1.trans he⟩
      · have hb1 : ((a.items.length : Int) != (b.items.length : Int)) = true := by simp; omega
        have E := Lib.hid (eqV_count hn)
        clear hn
        go_enter Tryz.func24, Tryz.ntmps24
        go_wp2_with fail
        refine (C1.out _ (h1.ext eb) (h1'.ext eb)).mono ?_; rintro _ w1 ⟨rfl, he1⟩
        replace B0 := fun w' (e : Ext w1 w') => B0 w' (he1.trans e)
        replace B1 := fun w' (e : Ext w1 w') => B1 w' (he1.trans e)
        go_wp2
        go_ret
        exact ⟨ret_bool E.out.symm, eb.trans he1⟩
  · have E := Lib.hid (eqV_num hq); clear C1
    go_enter Tryz.func24, Tryz.ntmps24
    go_wp2
    go_ret
    exact ⟨ret_bool E.out.symm, eb⟩
theorem sEqV_all : ∀ v, sEqVOk v := fun v => DVal.ind sEqV_of v

def iEqVOk (a : DVal) : Prop := ∀ (b : DVal) (Ab : Option Addr) (cb : Nat) (Ai : Option Addr) (ci : Nat) (Ab' : Option Addr) (cb' : Nat) (Ai' : Option Addr) (ci' : Nat) (w : World), RdV w a Ab cb Ai ci → RdV w b Ab' cb' Ai' ci' → szV a ≤ 140737488351232 → szV b ≤ 140737488351232 →
  Gives Tryz.prog 67 #[vval a (.slice Ab a.bytes.length cb) (.slice Ai a.items.length ci), vval b (.slice Ab' b.bytes.length cb') (.slice Ai' b.items.length ci')] w (.bool (eqV a b))
set_option maxRecDepth 100000 in
set_option maxHeartbeats 8000000 in
theorem iEqV_of (a : DVal) (H : ∀ x ∈ a.items, iEqVOk x) : iEqVOk a := by
  intro b Ab cb Ai ci Ab' cb' Ai' ci' w h h' hs hs'
  have C1 := Lib.hid (fun w h h' => iEqualBytes_c Ab Ab' a.bytes b.bytes cb cb' w h h')
  have h1 : Bs w Ab a.bytes cb := h.b.bs (bytes_le a) hs
  have h1' : Bs w Ab' b.bytes cb' := h'.b.bs (bytes_le b) hs'
  have hi := h.i; have hi' := h'.i
  have hl := hi.len; have hl' := hi'.len
  have HH := Lib.hid H
  have HS1 : Hid (∀ x ∈ a.items, szV x ≤ 140737488351232) := fun x hx => by have := szV_item hx; omega
  have HS2 : Hid (∀ x ∈ b.items, szV x ≤ 140737488351232) := fun x hx => by have := szV_item hx; omega
  have eb := Ext_alloc (.cells #[.int .i64 b.num, .slice Ab' b.bytes.length cb', .slice Ai' b.items.length ci'] 39) (Ext_alloc (.cells #[.int .i64 a.num, .slice Ab a.bytes.length cb, .slice Ai a.items.length ci] 39) (Ext.refl w))
  have BX := fun w' (e : Ext ((w.alloc (.cells #[.int .i64 a.num, .slice Ab a.bytes.length cb, .slice Ai a.items.length ci] 39)).alloc (.cells #[.int .i64 b.num, .slice Ab' b.bytes.length cb', .slice Ai' b.items.length ci'] 39)) w') => boxed2 e
  have B0 := fun w' e => (BX w' e).1
  have B1 := fun w' e => (BX w' e).2.1
  clear BX h h' H hs hs'
  unfold vval
  cases hq : (a.num != b.num)
  · have HQ := Lib.hid hq
    cases hz : (a.bytes == b.bytes)
    · have E := Lib.hid (eqV_bytes hz)
      rw [hz] at C1
      clear hz
      go_enter Tryz.func67, Tryz.ntmps67
      go_wp2_with fail
      refine (C1.out _ (h1.ext eb) (h1'.ext eb)).mono ?_; rintro _ w1 ⟨rfl, he1⟩
      go_wp2
      go_ret
      exact ⟨ret_bool E.out.symm, eb.trans he1⟩
    · have HZ := Lib.hid hz
      rw [hz] at C1
      clear hz
      by_cases hn : a.items.length = b.items.length
      · have hb1 : ((a.items.length : Int) != (b.items.length : Int)) = false := by simp [hn]
        have H := Lib.hid hn
        clear hn
        go_enter Tryz.func67, Tryz.ntmps67
        go_wp2_with fail
        refine (C1.out _ (h1.ext eb) (h1'.ext eb)).mono ?_; rintro _ w1 ⟨rfl, he1⟩
        have e1 := eb.trans he1
        replace B0 := fun w' (e : Ext w1 w') => B0 w' (he1.trans e)
        replace B1 := fun w' (e : Ext w1 w') => B1 w' (he1.trans e)
        clear eb he1
        have n0 := fun w' e => B0 w' e 2
        have n1 := fun w' e => B1 w' e 2
        simp only [List.getElem?_toArray, List.getElem?_cons_zero, List.getElem?_cons_succ] at n0 n1
        clear B0 B1 h1 h1' C1
        go_wp2
        go_loopw [31] (fun i wr => ∃ k : Nat, k ≤ a.items.length ∧ i = .int .i64 k ∧ Hid (∀ j (h1 : j < a.items.length) (h2 : j < b.items.length), j < k → eqV a.items[j] b.items[j] = true) ∧ Ext w1 wr) (fun i _ => a.items.length - (intOf i).toNat)
        case atStart => exact ⟨0, by omega, rfl, (fun j _ _ hj => by omega), Ext.refl _⟩
        case round =>
          obtain ⟨k, hk, rfl, ht, he⟩ := hrel
          by_cases hlt : k < a.items.length
          · have hlt' : k < b.items.length := by have := H.out; omega
            obtain ⟨bb, off, A1, c1, D1, d1, rfl, hb, hS, k0, k1, k2⟩ := hi.at k hlt
            obtain ⟨bb', off', A1', c1', D1', d1', rfl, hb', hS', j0, j1, j2⟩ := hi'.at k hlt'
            replace k0 := fun w' (e : Ext w1 w') => k0 w' (e1.trans e)
            replace k1 := fun w' (e : Ext w1 w') => k1 w' (e1.trans e)
            replace k2 := fun w' (e : Ext w1 w') => k2 w' (e1.trans e)
            replace j0 := fun w' (e : Ext w1 w') => j0 w' (e1.trans e)
            replace j1 := fun w' (e : Ext w1 w') => j1 w' (e1.trans e)
            replace j2 := fun w' (e : Ext w1 w') => j2 w' (e1.trans e)
            have s1 := HS1.out _ (List.getElem_mem hlt); have s2 := HS2.out _ (List.getElem_mem hlt')
            have NO : Hid (eqV a.items[k] b.items[k] = false → eqV a b = false) := eqV_item hlt hlt'
            have YES : Hid (eqV a.items[k] b.items[k] = true → ∀ j (h1 : j < a.items.length) (h2 : j < b.items.length), j < k + 1 → eqV a.items[j] b.items[j] = true) := by
              intro hy j h1 h2 hj
              rcases (by omega : j < k ∨ j = k) with hj | rfl
              · exact ht.out j h1 h2 hj
              · exact hy
            have Hk := HH.out _ (List.getElem_mem hlt)
            generalize a.items[k] = r at *
            generalize b.items[k] = q at *
            have CE := Lib.hid (fun w h h' => Hk q A1 c1 D1 d1 A1' c1' D1' d1' w h h' s1 s2)
            generalize eqV r q = z at *
            unfold vval at CE
            have H1 := Lib.hid (fun w' (e : Ext w1 w') => hS.ext (e1.trans e)); have H2 := Lib.hid (fun w' (e : Ext w1 w') => hS'.ext (e1.trans e))
            clear s1 s2 hS hS' Hk hi hi'
            have HT := ht; clear ht
            go_wp2_with fail
            refine wp_region_quiet_below (by kernel_rfl) (by kernel_rfl) ?_
            repeat (go_big_quiet_step ((go_at_call 67; exact Calls.regrown_of (CE.out _ (H1.out _ (by first | assumption | exact Ext_regrown _ _ he)) (H2.out _ (by first | assumption | exact Ext_regrown _ _ he))))))
            refine wpQuiet_nil ?_
            rintro w2 ⟨⟨nq, osq⟩, hq⟩
            have ew2 := ext_of_q hq
            clear hq nq osq
            have he1 := he.trans ew2
            cases z
            · have NO' := Lib.hid (NO.out rfl); clear NO YES
              go_wp2
              go_ret
              exact ⟨ret_bool NO'.out.symm, e1.trans he1⟩
            · have YES' := Lib.hid (YES.out rfl); clear NO YES
              go_wp2
              go_roundw
              case rel => exact ⟨k+1, by omega, by go_num, YES'.out, he1⟩
              case measure => simp [intOf]; omega
          · have hk' : k = a.items.length := by omega
            have HE : Hid (eqV a b = true) := eqV_all HQ.out HZ.out H.out (fun j h1 h2 => ht.out j h1 h2 (by omega))
            go_wp2
            go_ret
            exact ⟨ret_bool HE.out.symm, e1.trans he⟩
      · have hb1 : ((a.items.length : Int) != (b.items.length : Int)) = true := by simp; omega
        have E := Lib.hid (eqV_count hn)
        clear hn
        go_enter Tryz.func67, Tryz.ntmps67
        go_wp2_with fail
        refine (C1.out _ (h1.ext eb) (h1'.ext eb)).mono ?_; rintro _ w1 ⟨rfl, he1⟩
        replace B0 := fun w' (e : Ext w1 w') => B0 w' (he1.trans e)
        replace B1 := fun w' (e : Ext w1 w') => B1 w' (he1.trans e)
        go_wp2
        go_ret
        exact ⟨ret_bool E.out.symm, eb.trans he1⟩
  · have E := Lib.hid (eqV_num hq); clear C1
    go_enter Tryz.func67, Tryz.ntmps67
    go_wp2
    go_ret
    exact ⟨ret_bool E.out.symm, eb⟩
theorem iEqV_all : ∀ v, iEqVOk v := fun v => DVal.ind iEqV_of v
end Go.Proofs.YtjckcbfpejcpcaaGreatDoor

/- l24Diff of the reference: the walk. -/
set_option linter.unusedSimpArgs false
set_option linter.unusedVariables false
namespace Go.Proofs.YtjckcbfpejcpcaaGreatDoor
open Go.RowKit Go.Sort

theorem diffVs_len (ds : List DRule) (r : DRule) (n : Int) (p : ByteArray) : ∀ (l u : List DVal) (k : Nat), (diffVs ds r n k l u p).length ≤ szVs l
  | [], u, k => by rw [diffVs_nil]; simp
  | x :: t, [], k => by rw [diffVs]; simp
  | x :: t, y :: u, k => by
    rw [diffVs, List.length_append, szVs_cons]
    have h1 := diffV_len ds x (kidV r n k) y (under p r k)
    have h2 := diffVs_len ds r n p t u (k + 1)
    omega
theorem szVs_take_le (l : List DVal) (k : Nat) : szVs (l.take k) ≤ szVs l := by
  rw [szVs_sum, szVs_sum, sum_split szV l k, List.length_take]; omega
theorem alikeV_no {a b : DVal} (h : (a.num != b.num) = true ∨ (a.bytes == b.bytes) = false ∨ a.items.length ≠ b.items.length ∨ a.items.length = 0) : alikeV a b = false := by
  unfold alikeV
  rcases h with h | h | h | h
  · rw [show (a.num == b.num) = false by simpa using h]; rfl
  · rw [h]; simp
  · rw [beq_eq_false_iff_ne.2 h]; simp
  · rw [beq_iff_eq.2 h]; simp
theorem alikeV_yes {a b : DVal} (h1 : (a.num != b.num) = false) (h2 : (a.bytes == b.bytes) = true) (h3 : a.items.length = b.items.length) (h4 : a.items.length ≠ 0) : alikeV a b = true := by
  unfold alikeV
  rw [show (a.num == b.num) = true by simpa using h1, h2, beq_iff_eq.2 h3, beq_eq_false_iff_ne.2 h4]; rfl
theorem under_size {p : ByteArray} {r : DRule} {k : Nat} (h : (stepR r k).size ≤ 20) : (under p r k).size ≤ p.size + 21 := by
  unfold under
  rw [ByteArray.size_append, ByteArray.size_append]
  show p.size + 1 + _ ≤ _
  omega
def sDiffOk (A : Option Addr) (ds : List DRule) (c : Nat) (a : DVal) : Prop := ∀ (i : Nat) (_ : i < ds.length) (b : DVal) (Aa : Option Addr) (ca : Nat) (Ia : Option Addr) (ia : Nat) (Ab : Option Addr) (cb : Nat) (Ib : Option Addr) (ib : Nat) (p : ByteArray) (w : World),
  RdD w A ds c → RdV w a Aa ca Ia ia → RdV w b Ab cb Ib ib → validV ds i a = true → validV ds i b = true → szV a ≤ 1048576 → szV b ≤ 1048576 → p.size + 22 * (i + 1) ≤ 1000 →
  Calls Tryz.prog 31 #[vdesc (.slice A ds.length c), .int .i64 (i : Int), vval a (.slice Aa a.bytes.length ca) (.slice Ia a.items.length ia), vval b (.slice Ab b.bytes.length cb) (.slice Ib b.items.length ib), .string p] w fun e w' => ∃ v cs, e = .returned v ∧ chOf cs = diffV ds i a b p ∧ OwnC w w' v cs ∧ Ext w w'
set_option maxRecDepth 100000 in
set_option maxHeartbeats 8000000 in
theorem sDiff_of (A : Option Addr) (ds : List DRule) (c : Nat) (hok : descOk ds = true) (a : DVal) (H : ∀ x ∈ a.items, sDiffOk A ds c x) : sDiffOk A ds c a := by
  intro i hi b Aa ca Ia ia Ab cb Ib ib p w hd ha hb hva hvb hsa hsb hp
  have hl := hd.len
  have HD := Lib.hid hd; have HA := Lib.hid ha; have HB := Lib.hid hb
  have hal := ha.b.len; have hail := ha.i.len; have hbl := hb.b.len; have hbil := hb.i.len
  have CQ := Lib.hid (fun w h1 h2 => sEqV_all a b Aa ca Ia ia Ab cb Ib ib w h1 h2 (by omega) (by omega))
  have CB := Lib.hid (fun w h h' => sEqualBytes_c Aa Ab a.bytes b.bytes ca cb w h h')
  have CC := Lib.hid (fun w h => sCopy_all b Ab cb Ib ib w h (by omega))
  have HBA : Hid (∀ w', RdV w' a Aa ca Ia ia → Bs w' Aa a.bytes ca) := fun w' h => h.b.bs (bytes_le a) (by omega)
  have HBB : Hid (∀ w', RdV w' b Ab cb Ib ib → Bs w' Ab b.bytes cb) := fun w' h => h.b.bs (bytes_le b) (by omega)
  obtain ⟨W0, HW0, BA, BV, BU, eA, hsA⟩ := boxes3' w #[.slice A ds.length c] #[.int .i64 a.num, .slice Aa a.bytes.length ca, .slice Ia a.items.length ia] #[.int .i64 b.num, .slice Ab b.bytes.length cb, .slice Ib b.items.length ib] 35 39 39
  have B0 := BA.at 0; have B1 := BV.at; have B2 := BU.at
  simp only [List.getElem?_toArray, List.getElem?_cons_zero] at B0
  clear BA BV BU
  have x0 := Ext_alloc (.cells #[] 58) (Ext.refl W0)
  have OE := Own.empty (e := 58) (size := 4) (Ext.refl W0)
  have hsW : W0.heap.size = w.heap.size + 1 + 1 + 1 := by omega
  rw [hsW] at OE
  have HOE := Lib.hid OE; clear OE
  have HSW := Lib.hid hsW
  clear hd ha hb hsA hsW
  unfold vdesc vval at *
  cases he : eqV a b
  · have HWH : Hid (alikeV a b = false → diffV ds i a b p = [(p, b)]) := fun h => diffV_whole he h
    have HIT : Hid (alikeV a b = true → diffV ds i a b p = diffVs ds ds[i] a.num 0 a.items b.items p) := fun h => diffV_items hi he h
    rw [he] at CQ
    have HNO : Hid ((a.num != b.num) = true ∨ (a.bytes == b.bytes) = false ∨ a.items.length ≠ b.items.length ∨ a.items.length = 0 → diffV ds i a b p = [(p, b)]) := fun h => HWH.out (alikeV_no h)
    have HYES : Hid ((a.num != b.num) = false → (a.bytes == b.bytes) = true → a.items.length = b.items.length → a.items.length ≠ 0 → diffV ds i a b p = diffVs ds ds[i] a.num 0 a.items b.items p) := fun h1 h2 h3 h4 => HIT.out (alikeV_yes h1 h2 h3 h4)
    clear he HWH HIT
    generalize hDD : diffV ds i a b p = DD at *
    clear hDD
    cases hq1 : (a.num != b.num)
    · have HQ1 := Lib.hid hq1
      cases hq2 : (a.bytes == b.bytes)
      · have HE := Lib.hid (HNO.out (.inr (.inl hq2)))
        rw [hq2] at CB
        clear HNO HYES hq2
        go_enter Tryz.func31, Tryz.ntmps31
        go_wp2_with fail
        rw [← HW0.out]
        refine (CQ.out _ (HA.out.ext (eA.trans x0)) (HB.out.ext (eA.trans x0))).mono ?_; rintro _ w1 ⟨rfl, he1⟩
        have e01 := x0.trans he1
        have hOw1 := Lib.hid (Own.ext HOE.out he1)
        go_wp2_with fail
        refine (CB.out _ (HBA.out _ (HA.out.ext (eA.trans e01))) (HBB.out _ (HB.out.ext (eA.trans e01)))).mono ?_; rintro _ w3 ⟨rfl, he3⟩
        replace hOw1 := Lib.hid (Own.ext hOw1.out he3)
        replace e01 := e01.trans he3
        go_wp2_with fail
        refine (CC.out _ (HB.out.ext (eA.trans e01))).mono ?_; rintro _ w2 ⟨t, rfl, hgt, he2⟩
        have hgt := Lib.hid hgt
        have e02 := e01.trans he2
        have hOw2 := Lib.hid (Own.ext hOw1.out he2)
        have hone : Hid (∀ u ∈ [Value.string p, .int .i64 b.num, t.vb, t.vi], u.oneCell' = true) := by
          intro u hu
          rcases List.mem_cons.1 hu with rfl | hu
          · rfl
          · have := hgt.out.own.one; unfold VT.cells at this; rw [hgt.out.num] at this; exact this u hu
        go_wp2_with (first
          | (at_builtin; refine wpList_appE rfl (.tmp 47) (.tmp 52) _ rfl E_chg W0 w2 (.slice (some ⟨w.heap.size + 1 + 1 + 1, 0, none⟩) 0 0) 0 [] rfl hOw2.out e02 [.string p, .int .i64 b.num, t.vb, t.vi] _ rfl 1 _ _ rfl rfl rfl hone.out (by simp [maxLen]) (by omega) ?_; intro v6 w6 ho6 he6 hb6 hg6))
        go_ret
        have HJ := OwnC.snoc (c := (p, t)) (OwnC.nil hOw1.out) he2 hgt.out.own (Nat.le_refl _) hgt.out.far e01.size (by unfold ccells VT.cells; rw [hgt.out.num]; exact ho6) hg6 hb6
        exact ⟨_, [(p, t)], rfl, by rw [HE.out]; show [(p, t.val)] = _; rw [hgt.out.val], HJ.down eA.size, eA.trans he6⟩
      · have HQ2 := Lib.hid hq2
        rw [hq2] at CB
        clear hq2
        by_cases hn : a.items.length = b.items.length
        · have hb1 : ((a.items.length : Int) != (b.items.length : Int)) = false := by simp [hn]
          by_cases h0 : a.items.length = 0
          · have HE := Lib.hid (HNO.out (.inr (.inr (.inr h0))))
            have hz : ((a.items.length : Int) == 0) = true := by rw [h0]; rfl
            clear HNO HYES h0 hn
            go_enter Tryz.func31, Tryz.ntmps31
            go_wp2_with fail
            rw [← HW0.out]
            refine (CQ.out _ (HA.out.ext (eA.trans x0)) (HB.out.ext (eA.trans x0))).mono ?_; rintro _ w1 ⟨rfl, he1⟩
            have e01 := x0.trans he1
            have hOw1 := Lib.hid (Own.ext HOE.out he1)
            go_wp2_with fail
            refine (CB.out _ (HBA.out _ (HA.out.ext (eA.trans e01))) (HBB.out _ (HB.out.ext (eA.trans e01)))).mono ?_; rintro _ w3 ⟨rfl, he3⟩
            replace hOw1 := Lib.hid (Own.ext hOw1.out he3)
            replace e01 := e01.trans he3
            go_wp2_with fail
            refine (CC.out _ (HB.out.ext (eA.trans e01))).mono ?_; rintro _ w2 ⟨t, rfl, hgt, he2⟩
            have hgt := Lib.hid hgt
            have e02 := e01.trans he2
            have hOw2 := Lib.hid (Own.ext hOw1.out he2)
            have hone : Hid (∀ u ∈ [Value.string p, .int .i64 b.num, t.vb, t.vi], u.oneCell' = true) := by
              intro u hu
              rcases List.mem_cons.1 hu with rfl | hu
              · rfl
              · have := hgt.out.own.one; unfold VT.cells at this; rw [hgt.out.num] at this; exact this u hu
            go_wp2_with (first
              | (at_builtin; refine wpList_appE rfl (.tmp 47) (.tmp 52) _ rfl E_chg W0 w2 (.slice (some ⟨w.heap.size + 1 + 1 + 1, 0, none⟩) 0 0) 0 [] rfl hOw2.out e02 [.string p, .int .i64 b.num, t.vb, t.vi] _ rfl 1 _ _ rfl rfl rfl hone.out (by simp [maxLen]) (by omega) ?_; intro v6 w6 ho6 he6 hb6 hg6))
            go_ret
            have HJ := OwnC.snoc (c := (p, t)) (OwnC.nil hOw1.out) he2 hgt.out.own (Nat.le_refl _) hgt.out.far e01.size (by unfold ccells VT.cells; rw [hgt.out.num]; exact ho6) hg6 hb6
            exact ⟨_, [(p, t)], rfl, by rw [HE.out]; show [(p, t.val)] = _; rw [hgt.out.val], HJ.down eA.size, eA.trans he6⟩
          · have HE := Lib.hid (HYES.out HQ1.out HQ2.out hn h0)
            have hz : ((a.items.length : Int) == 0) = false := by rw [beq_eq_false_iff_ne]; omega
            clear h0
            obtain ⟨bR, oR, Rb, rb, Rn, rn, Rt, rt, Rk, rk, hAR, hbR, hSR, hRR⟩ := HD.out.at i hi
            have HSR := Lib.hid hSR
            have HNUM : Hid (a.num = b.num) := by have := HQ1.out; show _ = _; simpa using this
            have IT : Hid (∀ j, j < a.items.length → kidV ds[i] a.num j < i ∧ ItemAt ds[i] a.num j) := fun j hj => own_item hok i hi (validV_fits hva) hj
            have VA : Hid (∀ j (hj : j < a.items.length), validV ds (kidV ds[i] a.num j) a.items[j] = true) := fun j hj => validV_item hva j hj
            have VB : Hid (∀ j (hj : j < b.items.length), validV ds (kidV ds[i] a.num j) b.items[j] = true) := fun j hj => by have := validV_item hvb j hj; rwa [← HNUM.out] at this
            have SZ : Hid (∀ j, j < a.items.length → (stepR ds[i] j).size ≤ 20) := fun j hj => stepR_size hok i hi (IT.out j hj).2 (by omega)
            have H7 : Hid (ds[i].kind = 7 → ds[i].kids.length = ds[i].tags.length + 1) := fun h => ((kids_len hok i hi).2.2.2.1 h).1
            have HKN := Lib.hid (kd_int hok i hi)
            have HSA : Hid (∀ x ∈ a.items, szV x ≤ 1048576) := fun x hx => by have := szV_item hx; omega
            have HSB : Hid (∀ x ∈ b.items, szV x ≤ 1048576) := fun x hx => by have := szV_item hx; omega
            have HSI : Hid (szVs a.items ≤ 1048576) := by have := szVs_le_szV a; show _ ≤ _; omega
            have CX : Hid (∀ j, ItemAt ds[i] a.num j → j ≤ 9223372036854775807 → ∀ w', Ext w w' → Gives Tryz.prog 57 #[.agg #[.string ds[i].nm, .int .i64 ds[i].kind, .int .i64 ds[i].size, .bool ds[i].little, .slice Rb ds[i].bytes.length rb, .slice Rn ds[i].names.length rn, .slice Rt ds[i].tags.length rt, .slice Rk ds[i].kids.length rk], .int .i64 a.num, .int .i64 (j : Int)] w' (.int .i64 (kidV ds[i] a.num j : Nat))) :=
              fun j hj hjl w' e => sItemV_c ds[i] Rb rb Rn rn Rt rt Rk rk a.num j w' (HSR.out.ext e) hjl hj H7.out HKN.out
            have CS : Hid (∀ j, ItemAt ds[i] a.num j → j ≤ 9223372036854775807 → ∀ w', Ext w w' → Gives Tryz.prog 63 #[.agg #[.string ds[i].nm, .int .i64 ds[i].kind, .int .i64 ds[i].size, .bool ds[i].little, .slice Rb ds[i].bytes.length rb, .slice Rn ds[i].names.length rn, .slice Rt ds[i].tags.length rt, .slice Rk ds[i].kids.length rk], .int .i64 (j : Int)] w' (.string (stepR ds[i] j))) :=
              fun j hj hjl w' e => sStep_c ds[i] Rb rb Rn rn Rt rt Rk rk a.num j w' (HSR.out.ext e) hjl hj
            have HN := Lib.hid hn
            have HP := Lib.hid hp
            have HH := Lib.hid H
            obtain ⟨k0, k1, k2, k3, k4, k5, k6, k7⟩ := hRR
            replace k0 := fun w' (e : Ext W0 w') => k0 w' (eA.trans e)
            replace k1 := fun w' (e : Ext W0 w') => k1 w' (eA.trans e)
            replace k2 := fun w' (e : Ext W0 w') => k2 w' (eA.trans e)
            replace k3 := fun w' (e : Ext W0 w') => k3 w' (eA.trans e)
            replace k4 := fun w' (e : Ext W0 w') => k4 w' (eA.trans e)
            replace k5 := fun w' (e : Ext W0 w') => k5 w' (eA.trans e)
            replace k6 := fun w' (e : Ext W0 w') => k6 w' (eA.trans e)
            replace k7 := fun w' (e : Ext W0 w') => k7 w' (eA.trans e)
            clear hSR hva hvb H H7 HKN HNO HYES hn hp hok HQ1 HQ2 CC hsa hsb HNUM
            generalize hKV : (fun j => kidV ds[i] a.num j) = KV at *
            have hKV' : ∀ j, kidV ds[i] a.num j = KV j := fun j => by rw [← hKV]
            simp only [hKV'] at IT VA VB CX
            have HDT : Hid (∀ k (h1 : k < a.items.length) (h2 : k < b.items.length), diffVs ds ds[i] a.num 0 (a.items.take (k + 1)) (b.items.take (k + 1)) p = diffVs ds ds[i] a.num 0 (a.items.take k) (b.items.take k) p ++ diffV ds (KV k) a.items[k] b.items[k] (under p ds[i] k)) := fun k h1 h2 => by rw [diffVs_take ds ds[i] a.num p a.items b.items k h1 h2, hKV']
            clear hKV hKV'
            subst hAR
            generalize hr : ds[i] = r at *
            clear hr
            go_enter Tryz.func31, Tryz.ntmps31
            go_wp2_with fail
            rw [← HW0.out]
            refine (CQ.out _ (HA.out.ext (eA.trans x0)) (HB.out.ext (eA.trans x0))).mono ?_; rintro _ w1 ⟨rfl, he1⟩
            have e01 := x0.trans he1
            have hOw1 := Lib.hid (Own.ext HOE.out he1)
            go_wp2_with fail
            refine (CB.out _ (HBA.out _ (HA.out.ext (eA.trans e01))) (HBB.out _ (HB.out.ext (eA.trans e01)))).mono ?_; rintro _ w3 ⟨rfl, he3⟩
            replace hOw1 := Lib.hid (Own.ext hOw1.out he3)
            replace e01 := e01.trans he3
            go_wp2_with fail
            obtain ⟨gR, hgR⟩ : ∃ gR, gR = w3.heap.size := ⟨_, rfl⟩
            have hBR := Box.new w3 #[.string r.nm, .int .i64 r.kind, .int .i64 r.size, .bool r.little, .slice Rb r.bytes.length rb, .slice Rn r.names.length rn, .slice Rt r.tags.length rt, .slice Rk r.kids.length rk] 97
            have xR := Ext_alloc (.cells #[.string r.nm, .int .i64 r.kind, .int .i64 r.size, .bool r.little, .slice Rb r.bytes.length rb, .slice Rn r.names.length rn, .slice Rt r.tags.length rt, .slice Rk r.kids.length rk] 97) (Ext.refl w3)
            have hOw4 := Lib.hid (OwnC.nil (Own.ext hOw1.out xR))
            have e04 := e01.trans xR
            rw [← hgR] at hBR ⊢
            have HBR := Lib.hid hBR
            have hsz3 := e01.size
            have HVR : Hid (w.heap.size + 1 + 1 + 1 < gR) := by
              have h1 := x0.size; have h2 := e01.size; have h3 := e01.size; have h4 := HSW.out
              have h5 : (W0.alloc (.cells #[] 58)).heap.size ≤ w1.heap.size := he1.size
              have h6 := he3.size
              rw [World.size_alloc] at h5
              show _ < _; omega
            have HSZ0 : Hid (W0.heap.size = w.heap.size + 1 + 1 + 1) := HSW.out
            clear hBR hgR CQ CB k0 k1 k2 k3 k4 k5 k6 k7
            go_loopw [11, 13] (fun tv ix wr => ∃ (k : Nat) (v : Value) (cs : List CT), k ≤ a.items.length ∧ ix = .int .i64 k ∧ tv = v ∧ Hid (chOf cs = diffVs ds r a.num 0 (a.items.take k) (b.items.take k) p) ∧ Hid (OwnC W0 wr v cs) ∧ Hid (Box wr gR #[.string r.nm, .int .i64 r.kind, .int .i64 r.size, .bool r.little, .slice Rb r.bytes.length rb, .slice Rn r.names.length rn, .slice Rt r.tags.length rt, .slice Rk r.kids.length rk] 97) ∧ Hid (v.ownBlock ≠ some gR) ∧ Ext W0 wr ∧ gR < wr.heap.size) (fun _ ix _ => a.items.length - (intOf ix).toNat)
            case atStart => exact ⟨0, _, [], by omega, rfl, rfl, by simp [Hid, chOf, diffVs_nil], hOw4, HBR, fun hh => by have h1 := HVR.out; have : some (w.heap.size + 1 + 1 + 1) = some gR := hh; injection this with this; omega, e04, HBR.out.lt⟩
            case round =>
              clear hOw4 HBR e04
              obtain ⟨k, v, cs, hk, rfl, rfl, hcs, hoc, hbx, hnv, he, hgl⟩ := hrel
              by_cases hlt : k < a.items.length
              · have hlt' : k < b.items.length := by have := HN.out; omega
                obtain ⟨bb1, of1, A1, c1, D1, d1, hIa, hbb1, hs1, hr1⟩ := HA.out.i.at k hlt
                obtain ⟨bb2, of2, A2, c2, D2, d2, hIb, hbb2, hs2, hr2⟩ := HB.out.i.at k hlt'
                subst hIa; subst hIb
                obtain ⟨hkl, hat⟩ := IT.out k hlt
                have Hk := HH.out _ (List.getElem_mem hlt)
                have hva1 := VA.out k hlt; have hvb1 := VB.out k hlt'
                have hst := SZ.out k hlt
                have hun := under_size (p := p) hst
                have hsx := HSA.out _ (List.getElem_mem hlt); have hsy := HSB.out _ (List.getElem_mem hlt')
                have CE := Lib.hid (fun w' (e : Ext W0 w') => Hk (KV k) (by omega) b.items[k] A1 c1 D1 d1 A2 c2 D2 d2 (under p r k) w' (HD.out.ext (eA.trans e)) (hs1.ext (eA.trans e)) (hs2.ext (eA.trans e)) hva1 hvb1 hsx hsy (by have := HP.out; omega))
                have CJ := Lib.hid (fun w' (e : Ext W0 w') => CX.out k hat (by omega) w' (eA.trans e)); have CT2 := Lib.hid (fun w' (e : Ext W0 w') => CS.out k hat (by omega) w' (eA.trans e))
                have HT := Lib.hid (HDT.out k hlt hlt')
                have HLB : Hid ((diffV ds (KV k) a.items[k] b.items[k] (under p r k)).length ≤ 1048577) := by have := diffV_len ds a.items[k] (KV k) b.items[k] (under p r k); show _ ≤ _; omega
                have hcl : cs.length ≤ 1048576 := by
                  have h1 := chOf_len cs
                  rw [hcs.out] at h1
                  have h2 := diffVs_len ds r a.num p (a.items.take k) (b.items.take k) 0
                  have h3 := szVs_take_le a.items k
                  have h4 := HSI.out
                  omega
                have hp1 : p.size ≤ 1000 := by have := HP.out; omega
                unfold under at CE HT HLB
                have h47 : (⟨#[47]⟩ : ByteArray).size ≤ 1 := Nat.le_refl _
                have hps : (p ++ ⟨#[47]⟩ : ByteArray).size ≤ 1001 := by rw [ByteArray.size_append]; omega
                generalize hX : a.items[k] = x at *
                generalize hY : b.items[k] = y at *
                clear hX hY
                generalize hQ : stepR r k = q at *
                clear hQ
                have hn1 : ¬ 9223372036854775807 < p.size + 1 := by omega
                have hn2 : ¬ 9223372036854775807 < p.size + 1 + q.size := by omega
                generalize hK : KV k = kk at *
                clear hK hkl hat Hk hva1 hvb1 hs1 hs2 hun hsx hsy
                obtain ⟨i0, i1, i2⟩ := hr1
                obtain ⟨j0, j1, j2⟩ := hr2
                replace i0 := fun w' (e : Ext W0 w') => i0 w' (eA.trans e)
                replace i1 := fun w' (e : Ext W0 w') => i1 w' (eA.trans e)
                replace i2 := fun w' (e : Ext W0 w') => i2 w' (eA.trans e)
                replace j0 := fun w' (e : Ext W0 w') => j0 w' (eA.trans e)
                replace j1 := fun w' (e : Ext W0 w') => j1 w' (eA.trans e)
                replace j2 := fun w' (e : Ext W0 w') => j2 w' (eA.trans e)
                unfold vdesc vval at CE
                have hkk : (0 : Int) ≤ (k : Int) := by omega
                have hkl1 : (k : Int) < (a.items.length : Int) := by omega
                have hkl2 : (k : Int) < (b.items.length : Int) := by omega
                have SX : Hid (∀ w', Ext W0 w' → Box w' gR #[.string r.nm, .int .i64 r.kind, .int .i64 r.size, .bool r.little, .slice Rb r.bytes.length rb, .slice Rn r.names.length rn, .slice Rt r.tags.length rt, .slice Rk r.kids.length rk] 97 → (w'.cell? ⟨gR, 0, none⟩ = some (.string r.nm) ∧ w'.cell? ⟨gR, 1, none⟩ = some (.int .i64 r.kind) ∧ w'.cell? ⟨gR, 2, none⟩ = some (.int .i64 r.size) ∧ w'.cell? ⟨gR, 3, none⟩ = some (.bool r.little) ∧ w'.cell? ⟨gR, 4, none⟩ = some (.slice Rb r.bytes.length rb) ∧ w'.cell? ⟨gR, 5, none⟩ = some (.slice Rn r.names.length rn) ∧ w'.cell? ⟨gR, 6, none⟩ = some (.slice Rt r.tags.length rt) ∧ w'.cell? ⟨gR, 7, none⟩ = some (.slice Rk r.kids.length rk)) ∧ Ext W0 w' ∧ Box w' gR #[.string r.nm, .int .i64 r.kind, .int .i64 r.size, .bool r.little, .slice Rb r.bytes.length rb, .slice Rn r.names.length rn, .slice Rt r.tags.length rt, .slice Rk r.kids.length rk] 97) := fun w' e b => ⟨⟨b.cell 0, b.cell 1, b.cell 2, b.cell 3, b.cell 4, b.cell 5, b.cell 6, b.cell 7⟩, e, b⟩
                have HOC := hoc; have HBX := hbx
                have hed := Ext_drew he
                have hbd := HBX.out.dr
                have HXD : Ext wr wr.drew := Ext_drew (Ext.refl wr)
                go_wp2_with fail
                go_region_held3 (fun w' => (w'.cell? ⟨gR, 0, none⟩ = some (.string r.nm) ∧ w'.cell? ⟨gR, 1, none⟩ = some (.int .i64 r.kind) ∧ w'.cell? ⟨gR, 2, none⟩ = some (.int .i64 r.size) ∧ w'.cell? ⟨gR, 3, none⟩ = some (.bool r.little) ∧ w'.cell? ⟨gR, 4, none⟩ = some (.slice Rb r.bytes.length rb) ∧ w'.cell? ⟨gR, 5, none⟩ = some (.slice Rn r.names.length rn) ∧ w'.cell? ⟨gR, 6, none⟩ = some (.slice Rt r.tags.length rt) ∧ w'.cell? ⟨gR, 7, none⟩ = some (.slice Rk r.kids.length rk)) ∧ Ext W0 w' ∧ Box w' gR #[.string r.nm, .int .i64 r.kind, .int .i64 r.size, .bool r.little, .slice Rb r.bytes.length rb, .slice Rn r.names.length rn, .slice Rt r.tags.length rt, .slice Rk r.kids.length rk] 97) (exact SX.out _ (by assumption) (by assumption)) (first
                  | (go_at_call 57; have hq := ‹_ ∧ Ext W0 _ ∧ Box _ gR _ _›; refine (CJ.out _ hq.2.1).mono ?_; rintro _ w4 ⟨rfl, he4⟩; have hE4 := hq.2.1.trans he4; have hB4 := hq.2.2.ext he4)
                  | (go_at_call 63; have hq := ‹_ ∧ Ext W0 _ ∧ Box _ gR _ _›; refine (CT2.out _ hq.2.1).mono ?_; rintro _ w5 ⟨rfl, he5⟩; have hE5 := hq.2.1.trans he5; have hB5 := hq.2.2.ext he5)
                  | (go_at_call 31; have hq := ‹_ ∧ Ext W0 _ ∧ Box _ gR _ _›; refine (CE.out _ hq.2.1).mono ?_; rintro _ w7 ⟨v7, cB, rfl, hch, hoB, he7⟩; have hE7 := hq.2.1.trans he7; have hB7 := Lib.hid (hq.2.2.ext he7); have hall : Ext wr w7 := (by first | exact (HXD.trans (he4.trans he5)).trans he7 | exact (HXD.trans (he5.trans he4)).trans he7); have hbig : ∃ wb : World, wr.heap.size ≤ wb.heap.size ∧ OwnC wb w7 v7 cB := (by first | exact ⟨w5, ((HXD.trans he4).trans he5).size, hoB⟩ | exact ⟨w4, ((HXD.trans he5).trans he4).size, hoB⟩); have HBG := Lib.hid hbig; obtain ⟨A7, c7, hv7⟩ := hoB.shape; subst hv7; have HCH := Lib.hid hch; have HOB := Lib.hid hoB; clear hch hoB hbig; have hB7' := hB7.out)
                  | (refine step_appAny rfl (.tmp 66) (.tmp 89) _ rfl E_chg W0 w7 u11 cs.length (cs.flatMap ccells) rfl (Own.ext HOC.out.row hall) hE7 (cB.flatMap ccells) A7 cB.length c7 rfl (ccells_len cB) (OwnC.src HOB.out (Ext.refl _)) (ccells_one HOB.out.each) (by have := HLB.out; have h9 := chOf_len cB; rw [HCH.out] at h9; simp only [maxLen]; omega) (by have := HLB.out; have h9 := chOf_len cB; rw [HCH.out] at h9; omega) ?_; intro v9 w9 ho9 he9 hv9 hg9; have hB9 : Box w9 gR #[.string r.nm, .int .i64 r.kind, .int .i64 r.size, .bool r.little, .slice Rb r.bytes.length rb, .slice Rn r.names.length rn, .slice Rt r.tags.length rt, .slice Rk r.kids.length rk] 97 := Box.moved hB7.out hg9 hnv.out; have HJ : Hid (OwnC W0 w9 v9 (cs ++ cB)) := (let ⟨wb, hb1, hb2⟩ := HBG.out; OwnC.join HOC.out hb2 hb1 he.size hall ho9 hg9 hv9); have HV9 : Hid (v9.ownBlock ≠ some gR) := (Or.elim hv9 (fun h => by rw [h]; exact hnv.out) (fun h => by rw [h]; intro hh; injection hh with hh; have := hall.size; omega)); have hsz9 := hg9.size; clear ho9 hv9 hg9))
                all_goals
                  have N9 : Hid (chOf (cs ++ cB) = diffVs ds r a.num 0 (a.items.take (k + 1)) (b.items.take (k + 1)) p) := by show _ = _; rw [chOf_append, hcs.out, HCH.out, HT.out]
                  have hgl9 : gR < w9.heap.size := hB9.lt
                  have HB9 := Lib.hid hB9
                  go_wp2
                  go_roundw
                  case rel => exact ⟨k + 1, v9, cs ++ cB, by omega, by go_num, rfl, N9, HJ, HB9, HV9, he9, hgl9⟩
                  case measure => simp [intOf]; omega
              · have hk' : k = a.items.length := by omega
                have HF : Hid (chOf cs = DD) := by
                  show _ = _; rw [hcs.out, HE.out, hk', List.take_length, HN.out, List.take_length]
                go_wp2
                go_ret
                exact ⟨_, cs, rfl, HF.out, hoc.out.down eA.size, eA.trans he⟩
        · have HE := Lib.hid (HNO.out (.inr (.inr (.inl hn))))
          have hb1 : ((a.items.length : Int) != (b.items.length : Int)) = true := by simp; omega
          clear HNO HYES hn
          go_enter Tryz.func31, Tryz.ntmps31
          go_wp2_with fail
          rw [← HW0.out]
          refine (CQ.out _ (HA.out.ext (eA.trans x0)) (HB.out.ext (eA.trans x0))).mono ?_; rintro _ w1 ⟨rfl, he1⟩
          have e01 := x0.trans he1
          have hOw1 := Lib.hid (Own.ext HOE.out he1)
          go_wp2_with fail
          refine (CB.out _ (HBA.out _ (HA.out.ext (eA.trans e01))) (HBB.out _ (HB.out.ext (eA.trans e01)))).mono ?_; rintro _ w3 ⟨rfl, he3⟩
          replace hOw1 := Lib.hid (Own.ext hOw1.out he3)
          replace e01 := e01.trans he3
          go_wp2_with fail
          refine (CC.out _ (HB.out.ext (eA.trans e01))).mono ?_; rintro _ w2 ⟨t, rfl, hgt, he2⟩
          have hgt := Lib.hid hgt
          have e02 := e01.trans he2
          have hOw2 := Lib.hid (Own.ext hOw1.out he2)
          have hone : Hid (∀ u ∈ [Value.string p, .int .i64 b.num, t.vb, t.vi], u.oneCell' = true) := by
            intro u hu
            rcases List.mem_cons.1 hu with rfl | hu
            · rfl
            · have := hgt.out.own.one; unfold VT.cells at this; rw [hgt.out.num] at this; exact this u hu
          go_wp2_with (first
            | (at_builtin; refine wpList_appE rfl (.tmp 47) (.tmp 52) _ rfl E_chg W0 w2 (.slice (some ⟨w.heap.size + 1 + 1 + 1, 0, none⟩) 0 0) 0 [] rfl hOw2.out e02 [.string p, .int .i64 b.num, t.vb, t.vi] _ rfl 1 _ _ rfl rfl rfl hone.out (by simp [maxLen]) (by omega) ?_; intro v6 w6 ho6 he6 hb6 hg6))
          go_ret
          have HJ := OwnC.snoc (c := (p, t)) (OwnC.nil hOw1.out) he2 hgt.out.own (Nat.le_refl _) hgt.out.far e01.size (by unfold ccells VT.cells; rw [hgt.out.num]; exact ho6) hg6 hb6
          exact ⟨_, [(p, t)], rfl, by rw [HE.out]; show [(p, t.val)] = _; rw [hgt.out.val], HJ.down eA.size, eA.trans he6⟩
    · have HE := Lib.hid (HNO.out (.inl hq1))
      clear HNO HYES
      go_enter Tryz.func31, Tryz.ntmps31
      go_wp2_with fail
      rw [← HW0.out]
      refine (CQ.out _ (HA.out.ext (eA.trans x0)) (HB.out.ext (eA.trans x0))).mono ?_; rintro _ w1 ⟨rfl, he1⟩
      have e01 := x0.trans he1
      have hOw1 := Lib.hid (Own.ext HOE.out he1)
      go_wp2_with fail
      refine (CC.out _ (HB.out.ext (eA.trans e01))).mono ?_; rintro _ w2 ⟨t, rfl, hgt, he2⟩
      have hgt := Lib.hid hgt
      have e02 := e01.trans he2
      have hOw2 := Lib.hid (Own.ext hOw1.out he2)
      have hone : Hid (∀ u ∈ [Value.string p, .int .i64 b.num, t.vb, t.vi], u.oneCell' = true) := by
        intro u hu
        rcases List.mem_cons.1 hu with rfl | hu
        · rfl
        · have := hgt.out.own.one; unfold VT.cells at this; rw [hgt.out.num] at this; exact this u hu
      go_wp2_with (first
        | (at_builtin; refine wpList_appE rfl (.tmp 47) (.tmp 52) _ rfl E_chg W0 w2 (.slice (some ⟨w.heap.size + 1 + 1 + 1, 0, none⟩) 0 0) 0 [] rfl hOw2.out e02 [.string p, .int .i64 b.num, t.vb, t.vi] _ rfl 1 _ _ rfl rfl rfl hone.out (by simp [maxLen]) (by omega) ?_; intro v6 w6 ho6 he6 hb6 hg6))
      go_ret
      have HJ := OwnC.snoc (c := (p, t)) (OwnC.nil hOw1.out) he2 hgt.out.own (Nat.le_refl _) hgt.out.far e01.size (by unfold ccells VT.cells; rw [hgt.out.num]; exact ho6) hg6 hb6
      exact ⟨_, [(p, t)], rfl, by rw [HE.out]; show [(p, t.val)] = _; rw [hgt.out.val], HJ.down eA.size, eA.trans he6⟩
  · obtain rfl := eqV_iff.1 he
    have HE := Lib.hid (diffV_same ds i a p)
    rw [he] at CQ
    go_enter Tryz.func31, Tryz.ntmps31
    go_wp2_with fail
    rw [← HW0.out]
    refine (CQ.out _ (HA.out.ext (eA.trans x0)) (HB.out.ext (eA.trans x0))).mono ?_; rintro _ w1 ⟨rfl, he1⟩
    go_wp2
    go_ret
    refine ⟨_, [], rfl, by rw [HE.out]; rfl, (OwnC.nil (Own.ext HOE.out he1)).down (by have := eA.size; omega), eA.trans (x0.trans he1)⟩
end Go.Proofs.YtjckcbfpejcpcaaGreatDoor

/- validValue of the program; IsValidValue of both. -/
set_option linter.unusedSimpArgs false
set_option linter.unusedVariables false
namespace Go.Proofs.YtjckcbfpejcpcaaGreatDoor
open Go.RowKit Go.Sort

theorem iFit_c (A : Option Addr) (ds : List DRule) (c : Nat) (i : Nat) (hi : i < ds.length) (v : DVal) (Vb : Option Addr) (vb : Nat) (Vi : Option Addr) (vi : Nat) (g off : Nat) (w : World) (hok : descOk ds = true) (hd : RdD w A ds c) (hv : ValAt w g off v (.slice Vb v.bytes.length vb) (.slice Vi v.items.length vi)) (hb : v.bytes.length ≤ 9223372036854775807) (hm : v.items.length ≤ 9223372036854775807) :
    Gives Tryz.prog 97 #[vdesc (.slice A ds.length c), .int .i64 (i : Int), .pointer (some ⟨g, off, none⟩)] w (.bool (fitV ds ds[i] v.num v.bytes.length v.items.length)) := by
  obtain ⟨k4, k5, k6, k7, k8, k1, k3⟩ := kids_len hok i hi
  have hk := (ruleFacts hok i hi).kind
  rcases (by omega : ds[i].kind = 1 ∨ ds[i].kind = 2 ∨ ds[i].kind = 3 ∨ ds[i].kind = 4 ∨ ds[i].kind = 5 ∨ ds[i].kind = 6 ∨ ds[i].kind = 7 ∨ ds[i].kind = 8 ∨ ds[i].kind = 9 ∨ ds[i].kind = 10) with e | e | e | e | e | e | e | e | e | e
  · exact iFit_1 A ds c i hi v Vb vb Vi vi g off w hd hv hb hm e (k1 e)
  · exact iFit_2 A ds c i hi v Vb vb Vi vi g off w hd hv hb hm e
  · exact iFit_3 A ds c i hi v Vb vb Vi vi g off w hd hv hb hm e
  · exact iFit_4 A ds c i hi v Vb vb Vi vi g off w hd hv hb hm e (by have := (k4 e).1; omega)
  · exact iFit_5 A ds c i hi v Vb vb Vi vi g off w hd hv hb hm e (by have := (k5 e).1; omega)
  · exact iFit_6 A ds c i hi v Vb vb Vi vi g off w hd hv hb hm e
  · exact iFit_7 A ds c i hi v Vb vb Vi vi g off w hd hv hb hm e (by have := (k7 e).1; omega)
  · exact iFit_8 A ds c i hi v Vb vb Vi vi g off w hd hv hb hm e
  · exact iFit_9 A ds c i hi v Vb vb Vi vi g off w hd hv hb hm e
  · exact iFit_10 A ds c i hi v Vb vb Vi vi g off w hd hv hb hm e
/-- what fits the reference fits the program -/
theorem fit_of_own {ds : List DRule} (hok : descOk ds = true) (i : Nat) (hi : i < ds.length) {n : Int} {b m : Nat} (h : ownV ds ds[i] n b m = true) : fitV ds ds[i] n b m = true := by
  unfold fitV
  split
  · rename_i e
    have h7 := ((kids_len hok i hi).2.2.2.1 e).2
    unfold ownV at h
    rw [if_neg (by omega), if_neg (by omega), if_neg (by omega), if_neg (by omega), if_neg (by omega), if_neg (by omega), if_pos e] at h
    simp only [Bool.and_eq_true, beq_iff_eq, decide_eq_true_eq] at h
    have h8 := h7 _ h.1.1
    have h9 : ds[i].tags[tagN ds[i].tags n]'h.1.1 = n := by
      have := List.findIdx_getElem (p := (· == n)) (xs := ds[i].tags) (w := h.1.1)
      exact eq_of_beq this
    rw [h9] at h8
    simp only [Bool.and_eq_true, decide_eq_true_eq]
    omega
  · exact h
/-- what fits the program alone has one item, of a tag that is missing -/
theorem fit_not_own {ds : List DRule} {r : DRule} {n : Int} {b m : Nat} (h : fitV ds r n b m = true) (h2 : ownV ds r n b m = false) : r.kind = 7 ∧ m = 1 ∧ ¬ tagN r.tags n < r.tags.length := by
  unfold fitV at h
  split at h
  · rename_i e
    simp only [Bool.and_eq_true, decide_eq_true_eq] at h
    refine ⟨e, by omega, fun hlt => ?_⟩
    unfold ownV at h2
    rw [if_neg (by omega), if_neg (by omega), if_neg (by omega), if_neg (by omega), if_neg (by omega), if_neg (by omega), if_pos e, decide_eq_true hlt, beq_iff_eq.2 (show b = 0 by omega), beq_iff_eq.2 (show m = 1 by omega)] at h2
    simp at h2
  · rw [h] at h2; cases h2
theorem itemI_of {ds : List DRule} (hok : descOk ds = true) (i : Nat) (hi : i < ds.length) {n : Int} {b m j : Nat} (h : fitV ds ds[i] n b m = true) (hj : j < m) :
    ItemAtI ds[i] j ∧ ((ownV ds ds[i] n b m = true ∧ kidV ds[i] n j < i ∧ kidI ds[i] n j = (kidV ds[i] n j : Int)) ∨ (ownV ds ds[i] n b m = false ∧ kidI ds[i] n j = -1)) := by
  cases ho : ownV ds ds[i] n b m
  · obtain ⟨e, em, et⟩ := fit_not_own h ho
    exact ⟨.inr (.inr (.inl ⟨e, ((kids_len hok i hi).2.2.2.1 e).1⟩)), .inr ⟨rfl, by unfold kidI; rw [if_pos e, if_neg et]⟩⟩
  · obtain ⟨hlt, hat⟩ := own_item hok i hi ho hj
    refine ⟨?_, .inl ⟨rfl, hlt, ?_⟩⟩
    · rcases hat with ⟨a, b⟩ | ⟨a, b, _⟩ | ⟨a, _, _, _⟩ | ⟨a, _, b⟩
      · exact .inl ⟨a, b⟩
      · exact .inr (.inl ⟨a, b⟩)
      · exact .inr (.inr (.inl ⟨a, ((kids_len hok i hi).2.2.2.1 a).1⟩))
      · exact .inr (.inr (.inr ⟨a, b⟩))
    · unfold kidI
      rcases hat with ⟨a, b⟩ | ⟨a, b, _⟩ | ⟨a, _, ht, _⟩ | ⟨a, _, b⟩
      · rw [if_neg (by omega)]
      · rw [if_neg (by omega)]
      · rw [if_pos a, if_pos ht, kidV7 a]
      · rw [if_neg (by omega)]
def iValOk (A : Option Addr) (ds : List DRule) (c : Nat) (v : DVal) : Prop := ∀ (i : Nat) (_ : i < ds.length) (Vb : Option Addr) (vb : Nat) (Vi : Option Addr) (vi : Nat) (g off : Nat) (w : World), RdD w A ds c → RdV w v Vb vb Vi vi → ValAt w g off v (.slice Vb v.bytes.length vb) (.slice Vi v.items.length vi) →
  Gives Tryz.prog 66 #[vdesc (.slice A ds.length c), .int .i64 (i : Int), .pointer (some ⟨g, off, none⟩)] w (.bool (validV ds i v))
set_option maxRecDepth 100000 in
set_option maxHeartbeats 8000000 in
theorem iVal_of (A : Option Addr) (ds : List DRule) (c : Nat) (hok : descOk ds = true) (v : DVal) (H : ∀ x ∈ v.items, iValOk A ds c x) : iValOk A ds c v := by
  intro i hi Vb vb Vi vi g off w hd hv hat
  have hbl := hv.b.len; have hil := hv.i.len
  have CF := Lib.hid (fun w h1 h2 => iFit_c A ds c i hi v Vb vb Vi vi g off w hok h1 h2 hbl hil)
  have NO0 : Hid (fitV ds ds[i] v.num v.bytes.length v.items.length = false → validV ds i v = false) := fun h => by
    refine validV_own (hi := hi) ?_
    cases ho : ownV ds ds[i] v.num v.bytes.length v.items.length
    · rfl
    · rw [fit_of_own hok i hi ho] at h; cases h
  have NO1 : Hid (ownV ds ds[i] v.num v.bytes.length v.items.length = false → validV ds i v = false) := fun h => validV_own (hi := hi) h
  have NO2 : Hid (∀ j (hj : j < v.items.length), validV ds (kidV ds[i] v.num j) v.items[j] = false → validV ds i v = false) := fun j hj h => validV_no (hi := hi) hj h
  have YES : Hid (ownV ds ds[i] v.num v.bytes.length v.items.length = true → (∀ j (hj : j < v.items.length), validV ds (kidV ds[i] v.num j) v.items[j] = true) → validV ds i v = true) := fun h1 h2 => validV_yes (hi := hi) h1 h2
  have EMP : Hid (fitV ds ds[i] v.num v.bytes.length v.items.length = true → ownV ds ds[i] v.num v.bytes.length v.items.length = false → 0 < v.items.length) := fun h1 h2 => by have := (fit_not_own h1 h2).2.1; omega
  have IT : Hid (fitV ds ds[i] v.num v.bytes.length v.items.length = true → ∀ j, j < v.items.length → ItemAtI ds[i] j ∧ ((ownV ds ds[i] v.num v.bytes.length v.items.length = true ∧ kidV ds[i] v.num j < i ∧ kidI ds[i] v.num j = (kidV ds[i] v.num j : Int)) ∨ (ownV ds ds[i] v.num v.bytes.length v.items.length = false ∧ kidI ds[i] v.num j = -1))) := fun h j hj => itemI_of hok i hi h hj
  have HKN := Lib.hid (kd_int hok i hi)
  have HD := Lib.hid hd; have HV := Lib.hid hv; have HAT := Lib.hid hat
  have HH := Lib.hid H
  have CC : Hid (∀ j w', Ext w w' → j ≤ 9223372036854775807 → ItemAtI ds[i] j → Gives Tryz.prog 69 #[vdesc (.slice A ds.length c), .int .i64 (i : Int), .pointer (some ⟨g, off, none⟩), .int .i64 (j : Int)] w' (.int .i64 (kidI ds[i] v.num j))) :=
    fun j w' e hj h => iChild_c A ds c i hi v.num g off j w' (HD.out.ext e) (fun w2 e2 => HAT.out.c0 w2 (e.trans e2)) hj h HKN.out
  obtain ⟨v0, v1, v2⟩ := hat
  clear hok H hd hv HKN v0 v1
  have eb := Ext_alloc (.cells #[.slice A ds.length c] 35) (Ext.refl w)
  have BX := fun w' (e : Ext (w.alloc (.cells #[.slice A ds.length c] 35)) w') => boxed e 0
  simp only [List.getElem?_toArray, List.getElem?_cons_zero] at BX
  obtain ⟨W0, hW0⟩ : ∃ W0, W0 = w.alloc (.cells #[.slice A ds.length c] 35) := ⟨_, rfl⟩
  have HW0 := Lib.hid hW0
  rw [← hW0] at eb BX
  clear hW0
  replace v2 := fun w' (e : Ext W0 w') => v2 w' (eb.trans e)
  unfold vdesc at *
  generalize hKV : (fun j => kidV ds[i] v.num j) = KV at *
  have hKV' : ∀ j, kidV ds[i] v.num j = KV j := fun j => by rw [← hKV]
  simp only [hKV'] at NO2 YES IT
  generalize hKI : (fun j => kidI ds[i] v.num j) = KI at *
  have hKI' : ∀ j, kidI ds[i] v.num j = KI j := fun j => by rw [← hKI]
  simp only [hKI'] at CC IT
  clear hKV hKV' hKI hKI'
  generalize ownV ds ds[i] v.num v.bytes.length v.items.length = o at *
  generalize fitV ds ds[i] v.num v.bytes.length v.items.length = z at *
  generalize ds[i] = r at *
  generalize hR : validV ds i v = R at *
  have HR := Lib.hid hR; clear hR
  cases z
  · have E := Lib.hid (NO0.out rfl)
    clear NO0 NO1 NO2 YES IT CC
    go_enter Tryz.func66, Tryz.ntmps66
    go_wp2_with fail
    rw [← HW0.out]
    refine (CF.out _ (HD.out.ext eb) (HAT.out.ext eb)).mono ?_; rintro _ w1 ⟨rfl, he1⟩
    go_wp2
    go_ret
    exact ⟨ret_bool E.out.symm, eb.trans he1⟩
  · have IT' := Lib.hid (IT.out rfl); have EMP' := Lib.hid (EMP.out rfl)
    clear NO0 IT EMP
    go_enter Tryz.func66, Tryz.ntmps66
    go_wp2_with fail
    rw [← HW0.out]
    refine (CF.out _ (HD.out.ext eb) (HAT.out.ext eb)).mono ?_; rintro _ w1 ⟨rfl, he1⟩
    clear CF
    go_wp2
    go_loopw [19] (fun ix wr => ∃ k : Nat, k ≤ v.items.length ∧ ix = .int .i64 k ∧ Hid (∀ j (hj : j < v.items.length), j < k → o = true ∧ validV ds (KV j) v.items[j] = true) ∧ Ext W0 wr) (fun ix _ => v.items.length - (intOf ix).toNat)
    case atStart => exact ⟨0, by omega, rfl, (fun j _ hj => by omega), he1⟩
    case round =>
      obtain ⟨k, hk, rfl, ht, he⟩ := hrel
      by_cases hlt : k < v.items.length
      · obtain ⟨bb, of2, A1, c1, D1, d1, hVi, hb, hs, hr⟩ := HV.out.i.at k hlt
        subst hVi
        have Hk := HH.out _ (List.getElem_mem hlt)
        obtain ⟨hat, hcase⟩ := IT'.out k hlt
        have CJ := Lib.hid (CC.out k wr (eb.trans he) (by omega) hat)
        have NO : Hid (validV ds (KV k) v.items[k] = false → R = false) := fun h => NO2.out k hlt h
        have YE : Hid (o = true → validV ds (KV k) v.items[k] = true → ∀ j (h1 : j < v.items.length), j < k + 1 → o = true ∧ validV ds (KV j) v.items[j] = true) := by
          intro ho hy j h1 hj
          rcases (by omega : j < k ∨ j = k) with hj | rfl
          · exact ht.out j h1 hj
          · exact ⟨ho, hy⟩
        have hkk : (0 : Int) ≤ (k : Int) := by omega
        have hkl : (k : Int) < (v.items.length : Int) := by omega
        rcases hcase with ⟨rfl, hlt2, hki⟩ | ⟨rfl, hki⟩
        · rw [hki] at CJ
          have CE := Lib.hid (fun w' (e : Ext W0 w') => Hk (KV k) (by omega) A1 c1 D1 d1 bb (of2 + k * 3) w' (HD.out.ext (eb.trans e)) (hs.ext (eb.trans e)) (hr.ext (eb.trans e)))
          generalize hX : v.items[k] = x at *
          clear hX
          generalize hY : KV k = y at *
          clear hY hat Hk hs hr hki hlt2 CC
          generalize validV ds y x = zz at *
          unfold vdesc at CE
          have d0 : decide ((y : Int) < 0) = false := decide_eq_false (by omega)
          have HT := ht; clear ht
          go_wp2_with fail
          refine CJ.out.mono ?_; rintro _ w3 ⟨rfl, he3⟩
          have he13 := he.trans he3
          go_wp2_with fail
          refine wp_region_quiet_below (by kernel_rfl) (by kernel_rfl) ?_
          repeat (go_big_quiet_step ((go_at_call 66; exact Calls.regrown_of (CE.out _ (Ext.trans he13 (by first | assumption | exact Ext_regrown _ _ (Ext.refl _)))))))
          refine wpQuiet_nil ?_
          rintro w2 ⟨⟨nq, osq⟩, hq⟩
          have ew2 := ext_of_q hq
          clear hq nq osq
          have he2 := he13.trans ew2
          cases zz
          · have NO' := Lib.hid (NO.out rfl); clear NO YE
            go_wp2
            go_ret
            exact ⟨ret_bool NO'.out.symm, eb.trans he2⟩
          · have YE' := Lib.hid (YE.out (by first | exact trivial | rfl) (by first | exact trivial | rfl)); clear NO YE
            go_wp2
            go_roundw
            case rel => exact ⟨k+1, by omega, by go_num, YE'.out, he2⟩
            case measure => simp [intOf]; omega
        · rw [hki] at CJ
          have E := Lib.hid (NO1.out rfl)
          clear hat Hk hs hr hki CC NO YE ht
          go_wp2_with fail
          refine CJ.out.mono ?_; rintro _ w3 ⟨rfl, he3⟩
          have he13 := he.trans he3
          go_wp2_with fail
          refine wp_region_quiet_below (by kernel_rfl) (by kernel_rfl) ?_
          repeat (go_big_quiet_step (fail))
          refine wpQuiet_nil ?_
          rintro w2 ⟨⟨nq, osq⟩, hq⟩
          have ew2 := ext_of_q hq
          clear hq nq osq
          have he2 := he13.trans ew2
          go_wp2
          go_ret
          exact ⟨ret_bool E.out.symm, eb.trans he2⟩
      · have hk' : k = v.items.length := by omega
        have HE : Hid (R = true) := by
          have ho : o = true := by
            cases o
            · have h0 := EMP'.out rfl
              exact (ht.out 0 h0 (by omega)).1
            · rfl
          exact YES.out ho (fun j hj => (ht.out j hj (by omega)).2)
        go_wp2
        go_ret
        exact ⟨ret_bool HE.out.symm, eb.trans he⟩
theorem iVal_all (A : Option Addr) (ds : List DRule) (c : Nat) (hok : descOk ds = true) : ∀ v, iValOk A ds c v := fun v => DVal.ind (iVal_of A ds c hok) v
/-- a value of a rule that is there, in a description that is valid -/
theorem validB_no {ds : List DRule} {i : Int} (h : knownB ds i = false) (v : DVal) : validB ds i v = false := by unfold validB; rw [h]; rfl
theorem validB_yes {ds : List DRule} {k : Nat} (h : knownB ds (k : Int) = true) (v : DVal) : validB ds (k : Int) v = validV ds k v := by unfold validB; rw [h, Int.toNat_natCast]; rfl
theorem knownB_desc {ds : List DRule} {i : Int} (h : knownB ds i = true) : descOk ds = true ∧ ∃ k : Nat, ∃ _ : k < ds.length, i = (k : Int) := by
  unfold knownB at h
  simp at h
  exact ⟨h.1, i.toNat, by omega, by omega⟩
theorem l7Rule_c (A : Option Addr) (ds : List DRule) (c : Nat) (i : Int) (w : World) (hd : RdD w A ds c) (hs : ShortD ds) (hw : WfD ds) :
    Gives Tryz.prog 50 #[vdesc (.slice A ds.length c), .int .i64 i] w (.bool (knownB ds i)) := sKnown_c A ds c i w hd hs hw
set_option maxRecDepth 100000 in
set_option maxHeartbeats 4000000 in
theorem sValid_c (A : Option Addr) (ds : List DRule) (c : Nat) (i : Int) (v : DVal) (Vb : Option Addr) (vb : Nat) (Vi : Option Addr) (vi : Nat) (w : World) (hd : RdD w A ds c) (hs : ShortD ds) (hw : WfD ds) (hv : RdV w v Vb vb Vi vi) :
    Gives Tryz.prog 20 #[vdesc (.slice A ds.length c), .int .i64 i, vval v (.slice Vb v.bytes.length vb) (.slice Vi v.items.length vi)] w (.bool (validB ds i v)) := by
  obtain ⟨W0, hW0⟩ : ∃ W0, W0 = ((w.alloc (.cells #[.slice A ds.length c] 35)).alloc (.cells #[.int .i64 v.num, .slice Vb v.bytes.length vb, .slice Vi v.items.length vi] 39)) := ⟨_, rfl⟩
  have eb : Ext w W0 := by rw [hW0]; exact Ext_alloc _ (Ext_alloc _ (Ext.refl w))
  have BX := fun w' (e : Ext W0 w') => boxed2 (hW0 ▸ e)
  have B0 := fun w' e => (BX w' e).1 0
  have B1 := fun w' e => (BX w' e).2.1
  simp only [List.getElem?_toArray, List.getElem?_cons_zero] at B0
  clear BX
  have HW0 := Lib.hid hW0
  have CK := Lib.hid (fun w h => l7Rule_c A ds c i w h hs hw)
  have HD := Lib.hid hd; have HV := Lib.hid hv
  clear hd hv hW0
  cases hk : knownB ds i
  · have HE := Lib.hid (validB_no hk v)
    rw [HE.out]
    rw [hk] at CK
    unfold vdesc vval at *
    clear hk
    go_enter Tryz.func20, Tryz.ntmps20
    go_wp2_with fail
    rw [← HW0.out]
    refine (CK.out _ (HD.out.ext eb)).mono ?_; rintro _ w1 ⟨rfl, he1⟩
    go_wp2
    go_ret
    exact ⟨rfl, eb.trans he1⟩
  · obtain ⟨hok, k, hkl, rfl⟩ := knownB_desc hk
    have CV := Lib.hid (fun w h1 h2 => sVal_all A ds c hok v k hkl Vb vb Vi vi w h1 h2)
    have HE := Lib.hid (validB_yes hk v)
    rw [HE.out]
    rw [hk] at CK
    clear HE
    generalize validV ds k v = z at *
    unfold vdesc vval at *
    clear hk hok
    go_enter Tryz.func20, Tryz.ntmps20
    go_wp2_with fail
    rw [← HW0.out]
    refine (CK.out _ (HD.out.ext eb)).mono ?_; rintro _ w1 ⟨rfl, he1⟩
    have e1 := eb.trans he1
    go_wp2_with fail
    refine (CV.out _ (HD.out.ext e1) (HV.out.ext e1)).mono ?_; rintro _ w2 ⟨rfl, he2⟩
    go_wp2
    go_ret
    exact ⟨rfl, e1.trans he2⟩
set_option maxRecDepth 100000 in
set_option maxHeartbeats 4000000 in
theorem iValid_c (A : Option Addr) (ds : List DRule) (c : Nat) (i : Int) (v : DVal) (Vb : Option Addr) (vb : Nat) (Vi : Option Addr) (vi : Nat) (w : World) (hd : RdD w A ds c) (hs : ShortD ds) (hw : WfD ds) (hv : RdV w v Vb vb Vi vi) :
    Gives Tryz.prog 36 #[vdesc (.slice A ds.length c), .int .i64 i, vval v (.slice Vb v.bytes.length vb) (.slice Vi v.items.length vi)] w (.bool (validB ds i v)) := by
  obtain ⟨W0, HW0', BA, BV, eb, hsz⟩ := boxes2' w #[.slice A ds.length c] #[.int .i64 v.num, .slice Vb v.bytes.length vb, .slice Vi v.items.length vi] 35 39
  have B0 := BA.at 0; have B1 := BV.at
  simp only [List.getElem?_toArray, List.getElem?_cons_zero] at B0
  have HAT : Hid (∀ w', Ext W0 w' → ValAt w' (w.heap.size + 1) 0 v (.slice Vb v.bytes.length vb) (.slice Vi v.items.length vi)) := fun w' e => ⟨fun w2 e2 => BV.at 0 w2 (e.trans e2), fun w2 e2 => BV.at 1 w2 (e.trans e2), fun w2 e2 => BV.at 2 w2 (e.trans e2)⟩
  have CK := Lib.hid (fun w h => iKnown_c A ds c i w h hs hw)
  have HD := Lib.hid hd; have HV := Lib.hid hv
  clear hd hv BA BV hsz
  cases hk : knownB ds i
  · have HE := Lib.hid (validB_no hk v)
    rw [HE.out]
    rw [hk] at CK
    unfold vdesc vval at *
    clear hk
    go_enter Tryz.func36, Tryz.ntmps36
    go_wp2_with fail
    rw [← HW0'.out]
    refine (CK.out _ (HD.out.ext eb)).mono ?_; rintro _ w1 ⟨rfl, he1⟩
    go_wp2
    go_ret
    exact ⟨rfl, eb.trans he1⟩
  · obtain ⟨hok, k, hkl, rfl⟩ := knownB_desc hk
    have CV := Lib.hid (fun w h1 h2 h3 => iVal_all A ds c hok v k hkl Vb vb Vi vi (w.heap.size + 1) 0 w h1 h2 h3)
    have CV' : Hid (∀ w', Ext W0 w' → Gives Tryz.prog 66 #[vdesc (.slice A ds.length c), .int .i64 (k : Int), .pointer (some ⟨w.heap.size + 1, 0, none⟩)] w' (.bool (validV ds k v))) := fun w' e => iVal_all A ds c hok v k hkl Vb vb Vi vi (w.heap.size + 1) 0 w' (HD.out.ext (eb.trans e)) (HV.out.ext (eb.trans e)) (HAT.out w' e)
    have HE := Lib.hid (validB_yes hk v)
    rw [HE.out]
    rw [hk] at CK
    clear HE CV
    generalize validV ds k v = z at *
    unfold vdesc vval at *
    clear hk hok
    go_enter Tryz.func36, Tryz.ntmps36
    go_wp2_with fail
    rw [← HW0'.out]
    refine (CK.out _ (HD.out.ext eb)).mono ?_; rintro _ w1 ⟨rfl, he1⟩
    go_wp2_with fail
    refine (CV'.out _ he1).mono ?_; rintro _ w2 ⟨rfl, he2⟩
    go_wp2
    go_ret
    exact ⟨rfl, eb.trans (he1.trans he2)⟩
end Go.Proofs.YtjckcbfpejcpcaaGreatDoor

/- DiffValues of the reference. -/
set_option linter.unusedSimpArgs false
set_option linter.unusedVariables false
namespace Go.Proofs.YtjckcbfpejcpcaaGreatDoor
open Go.RowKit Go.Sort

theorem sDiff_all (A : Option Addr) (ds : List DRule) (c : Nat) (hok : descOk ds = true) : ∀ v, sDiffOk A ds c v := fun v => DVal.ind (sDiff_of A ds c hok) v
/-- the differences of two values of a description -/
noncomputable def diffD (ds : List DRule) (a b : DVal) : List (ByteArray × DVal) := if validB ds ((ds.length : Int) - 1) a = true ∧ validB ds ((ds.length : Int) - 1) b = true then diffV ds (ds.length - 1) a b ⟨#[]⟩ else []
theorem diffD_no {ds : List DRule} {a b : DVal} (h : validB ds ((ds.length : Int) - 1) a = false ∨ validB ds ((ds.length : Int) - 1) b = false) : diffD ds a b = [] := by
  unfold diffD; rw [if_neg]; rintro ⟨h1, h2⟩
  rcases h with h | h
  · rw [h] at h1; cases h1
  · rw [h] at h2; cases h2
theorem diffD_yes {ds : List DRule} {a b : DVal} (h1 : validB ds ((ds.length : Int) - 1) a = true) (h2 : validB ds ((ds.length : Int) - 1) b = true) :
    diffD ds a b = diffV ds (ds.length - 1) a b ⟨#[]⟩ ∧ descOk ds = true ∧ ∃ k : Nat, k = ds.length - 1 ∧ k < ds.length ∧ (ds.length : Int) - 1 = (k : Int) ∧ validV ds k a = true ∧ validV ds k b = true := by
  have hk : knownB ds ((ds.length : Int) - 1) = true := by unfold validB at h1; rw [Bool.and_eq_true] at h1; exact h1.1
  obtain ⟨hok, k, hlt, he⟩ := knownB_desc hk
  rw [he] at h1 h2 hk
  rw [validB_yes hk] at h1 h2
  refine ⟨?_, hok, k, by omega, hlt, he, h1, h2⟩
  unfold diffD
  rw [if_pos ⟨by rw [he, validB_yes hk]; exact h1, by rw [he, validB_yes hk]; exact h2⟩]
theorem diffD_len {ds : List DRule} {a b : DVal} {n : Nat} (h : szV a ≤ n) : (diffD ds a b).length ≤ n + 1 := by
  unfold diffD
  split
  · have := diffV_len ds a (ds.length - 1) b ⟨#[]⟩; omega
  · simp
set_option maxRecDepth 100000 in
set_option maxHeartbeats 4000000 in
theorem sDiffD_c (A : Option Addr) (ds : List DRule) (c : Nat) (a b : DVal) (Aa : Option Addr) (ca : Nat) (Ia : Option Addr) (ia : Nat) (Ab : Option Addr) (cb : Nat) (Ib : Option Addr) (ib : Nat) (w : World) (hd : RdD w A ds c) (hs : ShortD ds) (hw : WfD ds) (ha : RdV w a Aa ca Ia ia) (hb : RdV w b Ab cb Ib ib) (hsa : szV a ≤ 1048576) (hsb : szV b ≤ 1048576) :
    Calls Tryz.prog 7 #[vdesc (.slice A ds.length c), vval a (.slice Aa a.bytes.length ca) (.slice Ia a.items.length ia), vval b (.slice Ab b.bytes.length cb) (.slice Ib b.items.length ib)] w fun e w' => ∃ v cs, e = .returned v ∧ chOf cs = diffD ds a b ∧ OwnC w w' v cs ∧ Ext w w' := by
  have hl := hd.len
  have HD := Lib.hid hd; have HA := Lib.hid ha; have HB := Lib.hid hb
  have CR := Lib.hid (fun w => sRoot_c A ds c w hl)
  have CV1 := Lib.hid (fun w h h2 => sValid_c A ds c ((ds.length : Int) - 1) a Aa ca Ia ia w h hs hw h2)
  have CV2 := Lib.hid (fun w h h2 => sValid_c A ds c ((ds.length : Int) - 1) b Ab cb Ib ib w h hs hw h2)
  obtain ⟨W0, HW0, BA, BV, BU, eA, hsA⟩ := boxes3' w #[.slice A ds.length c] #[.int .i64 a.num, .slice Aa a.bytes.length ca, .slice Ia a.items.length ia] #[.int .i64 b.num, .slice Ab b.bytes.length cb, .slice Ib b.items.length ib] 35 39 39
  have B0 := BA.at 0; have B1 := BV.at; have B2 := BU.at
  simp only [List.getElem?_toArray, List.getElem?_cons_zero] at B0
  clear BA BV BU hd ha hb hsA
  have NIL : Hid (∀ w', Ext W0 w' → OwnC w (w'.alloc (.cells #[] 58)) (.slice (some ⟨w'.heap.size, 0, none⟩) 0 0) [] ∧ Ext w (w'.alloc (.cells #[] 58))) := fun w' e =>
    ⟨OwnC.nil (Own.empty (eA.trans e)), Ext_alloc _ (eA.trans e)⟩
  cases z1 : validB ds ((ds.length : Int) - 1) a
  · have HE := Lib.hid (diffD_no (.inl z1) : diffD ds a b = [])
    rw [HE.out]
    rw [z1] at CV1
    clear z1 CV2
    generalize (ds.length : Int) - 1 = rt at *
    unfold vdesc vval at *
    go_enter Tryz.func7, Tryz.ntmps7
    go_wp2_with fail
    rw [← HW0.out]
    refine (CR.out _).mono ?_; rintro _ w1 ⟨rfl, he1⟩
    go_wp2_with fail
    refine (CV1.out _ (HD.out.ext (eA.trans he1)) (HA.out.ext (eA.trans he1))).mono ?_; rintro _ w2 ⟨rfl, he2⟩
    obtain ⟨n1, n2⟩ := NIL.out w2 (he1.trans he2)
    have N1 := Lib.hid n1; have N2 := Lib.hid n2
    clear n1 n2
    go_wp2
    go_ret
    exact ⟨_, [], rfl, rfl, N1.out, N2.out⟩
  · cases z2 : validB ds ((ds.length : Int) - 1) b
    · have HE := Lib.hid (diffD_no (.inr z2) : diffD ds a b = [])
      rw [HE.out]
      rw [z1] at CV1
      rw [z2] at CV2
      clear z1 z2
      generalize (ds.length : Int) - 1 = rt at *
      unfold vdesc vval at *
      go_enter Tryz.func7, Tryz.ntmps7
      go_wp2_with fail
      rw [← HW0.out]
      refine (CR.out _).mono ?_; rintro _ w1 ⟨rfl, he1⟩
      go_wp2_with fail
      refine (CV1.out _ (HD.out.ext (eA.trans he1)) (HA.out.ext (eA.trans he1))).mono ?_; rintro _ w2 ⟨rfl, he2⟩
      have e2 := he1.trans he2
      go_wp2_with fail
      refine (CV2.out _ (HD.out.ext (eA.trans e2)) (HB.out.ext (eA.trans e2))).mono ?_; rintro _ w3 ⟨rfl, he3⟩
      obtain ⟨n1, n2⟩ := NIL.out w3 (e2.trans he3)
      have N1 := Lib.hid n1; have N2 := Lib.hid n2
      clear n1 n2
      go_wp2
      go_ret
      exact ⟨_, [], rfl, rfl, N1.out, N2.out⟩
    · obtain ⟨hE, hok, k, hk, hlt, hrt, hva, hvb⟩ := diffD_yes z1 z2
      rw [hE, ← hk]
      have hle := (descOk_len hok).2
      have CD := Lib.hid (fun w h1 h2 h3 => sDiff_all A ds c hok a k hlt b Aa ca Ia ia Ab cb Ib ib ⟨#[]⟩ w h1 h2 h3 hva hvb hsa hsb (by show 0 + 22 * (k + 1) ≤ 1000; omega))
      rw [z1] at CV1
      rw [z2] at CV2
      rw [hrt] at CV1 CV2 CR
      clear z1 z2 hE hk hrt hva hvb NIL hok
      generalize diffV ds k a b ⟨#[]⟩ = DD at *
      unfold vdesc vval at *
      go_enter Tryz.func7, Tryz.ntmps7
      go_wp2_with fail
      rw [← HW0.out]
      refine (CR.out _).mono ?_; rintro _ w1 ⟨rfl, he1⟩
      go_wp2_with fail
      refine (CV1.out _ (HD.out.ext (eA.trans he1)) (HA.out.ext (eA.trans he1))).mono ?_; rintro _ w2 ⟨rfl, he2⟩
      have e2 := he1.trans he2
      go_wp2_with fail
      refine (CV2.out _ (HD.out.ext (eA.trans e2)) (HB.out.ext (eA.trans e2))).mono ?_; rintro _ w3 ⟨rfl, he3⟩
      have e3 := e2.trans he3
      go_wp2_with fail
      refine (CD.out _ (HD.out.ext (eA.trans e3)) (HA.out.ext (eA.trans e3)) (HB.out.ext (eA.trans e3))).mono ?_; rintro _ w4 ⟨v4, cs, rfl, hcs, hoc, he4⟩
      have HC := Lib.hid hcs; have HO := Lib.hid hoc
      clear hcs hoc
      go_wp2
      go_ret
      exact ⟨_, cs, rfl, HC.out, HO.out.down (eA.trans e3).size, (eA.trans e3).trans he4⟩
end Go.Proofs.YtjckcbfpejcpcaaGreatDoor
