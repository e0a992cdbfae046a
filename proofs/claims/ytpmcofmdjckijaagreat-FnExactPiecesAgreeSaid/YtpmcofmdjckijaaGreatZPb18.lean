/- Texts, laid into one. -/
import Derived.Test.YtpmcofmdjckijaaGreatZPb10
import Derived.Test.YtpmcofmdjckijaaGreatZPb16
import Derived.Test.YtpmcofmdjckijaaGreatZPb17
set_option linter.unusedVariables false
set_option linter.unusedSimpArgs false
set_option maxRecDepth 100000
set_option maxHeartbeats 16000000
namespace Go.Proofs.YtpmcofmdjckijaaGreat
open Go.RowKit Go.Sort
theorem iKind_c (A : Option Addr) (ds : List DRule) (c : Nat) (r : DRule) (Ab : Option Addr) (cb : Nat) (An : Option Addr) (cn : Nat) (At : Option Addr) (ct : Nat) (Ak : Option Addr) (ck : Nat) (w : World) (hd : RdD w A ds c) (h : RdS w r Ab cb An cn At ct Ak ck) (hs : ShortR r) (hw : WfR r) :
 Gives Tryz.prog 137 #[vdesc (.slice A ds.length c), vrule r (.slice Ab r.bytes.length cb) (.slice An r.names.length cn) (.slice At r.tags.length ct) (.slice Ak r.kids.length ck)] w (.bool (kindOk ds r)) := by
 rcases (by omega : r.kind = 1 ∨ r.kind = 2 ∨ r.kind = 3 ∨ r.kind = 4 ∨ r.kind = 5 ∨ r.kind = 6 ∨ r.kind = 7 ∨ r.kind = 8 ∨ r.kind = 9 ∨ r.kind = 10 ∨ (r.kind < 1 ∨ 10 < r.kind)) with hk | hk | hk | hk | hk | hk | hk | hk | hk | hk | hk
 ·exact iKind1_c A ds c r Ab cb An cn At ct Ak ck w hd h hs hw hk
 ·exact iKind2_c A ds c r Ab cb An cn At ct Ak ck w hd h hs hw hk
 ·exact iKind3_c A ds c r Ab cb An cn At ct Ak ck w hd h hs hw hk
 ·exact iKind4_c A ds c r Ab cb An cn At ct Ak ck w hd h hs hw hk
 ·exact iKind5_c A ds c r Ab cb An cn At ct Ak ck w hd h hs hw hk
 ·exact iKind6_c A ds c r Ab cb An cn At ct Ak ck w hd h hs hw hk
 ·exact iKind7_c A ds c r Ab cb An cn At ct Ak ck w hd h hs hw hk
 ·exact iKind8_c A ds c r Ab cb An cn At ct Ak ck w hd h hs hw hk
 ·exact iKind9_c A ds c r Ab cb An cn At ct Ak ck w hd h hs hw hk
 ·exact iKind10_c A ds c r Ab cb An cn At ct Ak ck w hd h hs hw hk
 ·exact iKindX_c A ds c r Ab cb An cn At ct Ak ck w hd h hs hw hk
theorem sKind_c (A : Option Addr) (ds : List DRule) (c : Nat) (r : DRule) (Ab : Option Addr) (cb : Nat) (An : Option Addr) (cn : Nat) (At : Option Addr) (ct : Nat) (Ak : Option Addr) (ck : Nat) (w : World) (hd : RdD w A ds c) (h : RdS w r Ab cb An cn At ct Ak ck) (hs : ShortR r) (hw : WfR r) :
 Gives Tryz.prog 129 #[vdesc (.slice A ds.length c), vrule r (.slice Ab r.bytes.length cb) (.slice An r.names.length cn) (.slice At r.tags.length ct) (.slice Ak r.kids.length ck)] w (.bool ((!r.little || r.kind == 1) && kindOk ds r)) := by
 rcases (by omega : r.kind = 1 ∨ r.kind = 2 ∨ r.kind = 3 ∨ r.kind = 4 ∨ r.kind = 5 ∨ r.kind = 6 ∨ r.kind = 7 ∨ r.kind = 8 ∨ r.kind = 9 ∨ r.kind = 10 ∨ (r.kind < 1 ∨ 10 < r.kind)) with hk | hk | hk | hk | hk | hk | hk | hk | hk | hk | hk
 ·exact sKind1_c A ds c r Ab cb An cn At ct Ak ck w hd h hs hw hk
 ·exact sKind2_c A ds c r Ab cb An cn At ct Ak ck w hd h hs hw hk
 ·exact sKind3_c A ds c r Ab cb An cn At ct Ak ck w hd h hs hw hk
 ·exact sKind4_c A ds c r Ab cb An cn At ct Ak ck w hd h hs hw hk
 ·exact sKind5_c A ds c r Ab cb An cn At ct Ak ck w hd h hs hw hk
 ·exact sKind6_c A ds c r Ab cb An cn At ct Ak ck w hd h hs hw hk
 ·exact sKind7_c A ds c r Ab cb An cn At ct Ak ck w hd h hs hw hk
 ·exact sKind8_c A ds c r Ab cb An cn At ct Ak ck w hd h hs hw hk
 ·exact sKind9_c A ds c r Ab cb An cn At ct Ak ck w hd h hs hw hk
 ·exact sKind10_c A ds c r Ab cb An cn At ct Ak ck w hd h hs hw hk
 ·exact sKindX_c A ds c r Ab cb An cn At ct Ak ck w hd h hs hw hk
theorem freshNm_at {ds : List DRule} {r : DRule} {j : Nat} (h : j < ds.length) : freshNm ds r j = !(ds[j].nm.toList == r.nm.toList) := by unfold freshNm; rw [List.getElem?_eq_getElem h]
theorem kidOk_at {l : List Int} {i j : Nat} (h : j < l.length) : kidOk l i j = between l[j] 0 ((i : Int) - 1) := by unfold kidOk; rw [List.getElem?_eq_getElem h]
theorem ruleOk_at {ds : List DRule} {i : Nat} (h : i < ds.length) : ruleOk ds i = (isName ds[i].nm && (!ds[i].little || ds[i].kind == 1) && allN i (freshNm ds ds[i]) && allN ds[i].kids.length (kidOk ds[i].kids i) && kindOk ds ds[i]) := by unfold ruleOk; rw [List.getElem?_eq_getElem h]
end Go.Proofs.YtpmcofmdjckijaaGreat
