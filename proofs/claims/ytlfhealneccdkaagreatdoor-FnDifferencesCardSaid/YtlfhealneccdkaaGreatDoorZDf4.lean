/- Texts, laid into one. -/
import Derived.Test.YtlfhealneccdkaaGreatDoorZDf1
set_option linter.unusedVariables false
set_option linter.unusedSimpArgs false
set_option maxRecDepth 100000
set_option maxHeartbeats 16000000
namespace Go.Proofs.YtlfhealneccdkaaGreatDoor
open Go.RowKit Go.Sort
theorem heap_ext' {w w':World} {g:Nat} {o:Obj} (h:w.heap[g]?=some o) (e:Ext w w'):w'.heap[g]?=some o:=(Below.block e g (Array.getElem?_eq_some_iff.1 h).1).trans h
theorem grown_set (w:World) (a:Addr) (u:Value):w.grownBy (w.setCell a u) (some a.block) :=
 ⟨rfl,rfl,rfl,by simp,fun k _ hk=>heap_setCell_other w a k u (fun e=>hk (by rw [e]))⟩
theorem grown_ext {w w':World} (e:Ext w w') (row:Option Nat):w.grownBy w' row:=⟨e.os,e.tape,e.output,e.size,fun i hi _=>Below.block e i hi⟩
def Box (w:World) (g:Nat) (cs:Array Value) (T:TypeId):Prop:=w.heap[g]?=some (.cells cs T (0,0))
theorem Box.lt {w:World} {g:Nat} {cs:Array Value} {T:TypeId} (h:Box w g cs T):g<w.heap.size:=(Array.getElem?_eq_some_iff.1 h).1
theorem Box.new (w:World) (cs:Array Value) (T:TypeId):Box (w.alloc (.cells cs T)) w.heap.size cs T:=heap_alloc_new w _
theorem kb {w W:World} {cs:Array Value} {T:TypeId} (h:Hid (W=w.alloc (.cells cs T))):Box W w.heap.size cs T:=by rw [h.out];exact Box.new _ _ _
theorem Box.cell {w:World} {g:Nat} {cs:Array Value} {T:TypeId} (h:Box w g cs T) (i:Nat):w.cell? ⟨g,i,none⟩=cs[i]?:=cell_of_row w g i cs T (0,0) h
theorem Box.free {w:World} {g:Nat} {cs:Array Value} {T:TypeId} (h:Box w g cs T) (i:Nat):w.frozen? ⟨g,i,none⟩=false:=frozen_of_row w g i cs T h
theorem Box.ext {w w':World} {g:Nat} {cs:Array Value} {T:TypeId} (h:Box w g cs T) (e:Ext w w'):Box w' g cs T:=heap_ext' h e
theorem Box.moved {w w':World} {g:Nat} {cs:Array Value} {T:TypeId} (h:Box w g cs T) {r:Option Nat} (hg:w.grownBy w' r) (hne:r≠some g):Box w' g cs T:=(hg.block g h.lt (fun hh=>hne hh.symm)).trans h
theorem Box.set {w:World} {g:Nat} {cs:Array Value} {T:TypeId} (h:Box w g cs T) (i:Nat) (u:Value):Box (w.setCell ⟨g,i,none⟩ u) g (cs.setIfInBounds i u) T:=heap_setCell_same w g i cs T u h
theorem Box.other {w:World} {g g':Nat} {cs:Array Value} {T:TypeId} (h:Box w g cs T) (hne:g≠g') (i:Nat) (u:Value):Box (w.setCell ⟨g',i,none⟩ u) g cs T:=(heap_setCell_other w ⟨g',i,none⟩ g u hne).trans h
theorem Box.at {w:World} {g:Nat} {cs:Array Value} {T:TypeId} (h:Box w g cs T) (i:Nat):∀ w',Ext w w'→w'.cell? ⟨g,i,none⟩=cs[i]?:=fun _ e=>(h.ext e).cell i
theorem Box.frees {w:World} {g:Nat} {cs:Array Value} {T:TypeId} (h:Box w g cs T) (i:Nat):∀ w',Ext w w'→w'.frozen? ⟨g,i,none⟩=false:=fun _ e=>(h.ext e).free i
theorem boxes3 (w:World) (c0 c1 c2:Array Value) (T0 T1 T2:TypeId) :
 Box (((w.alloc (.cells c0 T0)).alloc (.cells c1 T1)).alloc (.cells c2 T2)) w.heap.size c0 T0∧Box (((w.alloc (.cells c0 T0)).alloc (.cells c1 T1)).alloc (.cells c2 T2)) (w.heap.size+1) c1 T1 ∧
 Box (((w.alloc (.cells c0 T0)).alloc (.cells c1 T1)).alloc (.cells c2 T2)) (w.heap.size+1+1) c2 T2∧Ext w (((w.alloc (.cells c0 T0)).alloc (.cells c1 T1)).alloc (.cells c2 T2)) ∧
 (((w.alloc (.cells c0 T0)).alloc (.cells c1 T1)).alloc (.cells c2 T2)).heap.size=w.heap.size+3:=by
 have s1:(w.alloc (.cells c0 T0)).heap.size=w.heap.size+1:=by simp
 have s2:((w.alloc (.cells c0 T0)).alloc (.cells c1 T1)).heap.size=w.heap.size+1+1:=by simp
 have h1:=Box.new (w.alloc (.cells c0 T0)) c1 T1;have h2:=Box.new ((w.alloc (.cells c0 T0)).alloc (.cells c1 T1)) c2 T2;rw [s1] at h1;rw [s2] at h2;exact ⟨((Box.new w c0 T0).ext (Ext_alloc _ (Ext.refl _))).ext (Ext_alloc _ (Ext.refl _)),h1.ext (Ext_alloc _ (Ext.refl _)),h2,Ext_alloc _ (Ext_alloc _ (Ext_alloc _ (Ext.refl w))),by simp⟩
theorem boxes3' (w:World) (c0 c1 c2:Array Value) (T0 T1 T2:TypeId) :
 ∃ W,Hid (W=(((w.alloc (.cells c0 T0)).alloc (.cells c1 T1)).alloc (.cells c2 T2)))∧Box W w.heap.size c0 T0∧Box W (w.heap.size+1) c1 T1∧Box W (w.heap.size+1+1) c2 T2∧Ext w W∧W.heap.size=w.heap.size+3 :=
 ⟨_,rfl,boxes3 w c0 c1 c2 T0 T1 T2⟩
theorem Own.other {e:TypeId} {size:Nat} {w0 w:World} {v:Value} {n:Nat} {xs:List Value} (h:Own e size w0 w v n xs) (p:Addr) (u:Value) (hne:v.ownBlock≠some p.block):Own e size w0 (w.setCell p u) v n xs:=by
 refine World.ownsRow.kept h (grown_set w p u) ?_;cases hb:v.ownBlock with
 | none=>exact .inl rfl
 | some g=>right;rw [hb] at hne;exact fun he=>hne he
theorem OwnL.other {α:Type} {f:α→Value} {e:TypeId} {w0 w:World} {v:Value} {l:List α} (h:OwnL f e w0 w v l) (p:Addr) (u:Value) (hne:v.ownBlock≠some p.block):OwnL f e w0 (w.setCell p u) v l:=Own.other h p u hne
theorem OwnL.far {α:Type} {f:α→Value} {e:TypeId} {w0 w:World} {v:Value} {l:List α} (h:OwnL f e w0 w v l) {b:Nat} (hb:b<w0.heap.size∨w.heap.size≤b):v.ownBlock≠some b:=by
 intro hv;have h1:=World.ownsRow.lt h b hv
 omega
theorem OwnL.down {α:Type} {f:α→Value} {e:TypeId} {w0 w1 w:World} {v:Value} {l:List α} (h:OwnL f e w1 w v l) (hb:w0.heap.size≤w1.heap.size):OwnL f e w0 w v l:=World.ownsRow.lower h hb
end Go.Proofs.YtlfhealneccdkaaGreatDoor
