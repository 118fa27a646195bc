/-
  Laid texts.
-/
import Derived.Below
import Derived.BigQuiet
import Derived.Carry
import Derived.Deep.LoopGhost
import Derived.Deep.Slices
import Derived.Ground.Names2Prog
import Derived.Ground.PaProg
import Derived.KernelRfl
import Derived.Laws.RangeAny
import Derived.Laws.Runes
import Derived.Lib.Hide
import Derived.Lib.MapLaws
import Derived.Lib.OthersKept
import Derived.Maps.Ext
import Derived.Maps.OwnSet
import Derived.Maps.RangeWalk
import Derived.OneCell
import Derived.Shelf.Bits.Mul64
import Derived.Shelf.LaysM
import Derived.Shelf.Path.Small
import Derived.Shelf.Slices.Empties2
import Derived.Shelf.Slices.Equal
import Derived.Shelf.Slices.In.SortNone
import Derived.Shelf.Slices.SearchI
import Derived.Shelf.Slices.Turned
import Derived.Shelf.Small.Bits
import Derived.Shelf.Small.Strs
import Derived.Shelf.Small.Utf8
import Derived.Shelf.Small.Wraps
import Derived.Shelf.Sort.Plain
import Derived.Shelf.Strconv.Itoa0
import Derived.Shelf.Strings.AsciiSet
import Derived.Shelf.Strings.Builder1
import Derived.Shelf.Strings.Builder2
import Derived.Shelf.Strings.Builder2Cap
import Derived.Shelf.Strings.BuilderCap
import Derived.Shelf.Strings.BuilderF
import Derived.Shelf.Strings.BuilderK
import Derived.Shelf.Strings.Count
import Derived.Shelf.Strings.Explode
import Derived.Shelf.Strings.IndexAny
import Derived.Shelf.Strings.IndexAnyAll
import Derived.Shelf.Strings.LastIndex
import Derived.Shelf.Strings.LastIndexAll
import Derived.Shelf.Strings.OnBuilder
import Derived.Shelf.Strings.Prefix
import Derived.Shelf.Strings.Repeat
import Derived.Shelf.Strings.RuneCount
import Derived.Shelf.Strings.Runes
import Derived.Shelf.Strings.Search1
import Derived.Shelf.Strings.Search2
import Derived.Shelf.Strings.Search3
import Derived.Shelf.Strings.Shaped
import Derived.Shelf.Strings.Split
import Derived.Shelf.Strings.SplitShaped
import Derived.Shelf.Unicode.Decode
import Derived.Shelf.Unicode.DecodeAny
import Derived.Shelf.Unicode.DecodeSlow
import Derived.Shelf.Utf8.RuneCount
import Derived.Test.YtcicjklhbnipcaaGreatDoorChecked
import Derived.Test.YtcicjklhbnipcaaGreatDoorProg
import Derived.WalkKit
import Derived.WalkLawsBesides
import Derived.WalkMore
import Derived.WalkSpells
import GoSem.ClaimWide
set_option maxHeartbeats 16000000
set_option maxRecDepth 1000000
set_option linter.unusedVariables false
set_option linter.unusedSimpArgs false
namespace Go.Proofs.YtcicjklhbnipcaaGreatDoor
theorem qSa {α : Type} {l : List α} {i : Nat} {a : α} : l.toArray.setIfInBounds i a = (l.set i a).toArray := List.setIfInBounds_toArray ..
theorem qSz {α : Type} {x : α} {xs : List α} {a : α} : (x :: xs).set 0 a = a :: xs := rfl
theorem qSs {α : Type} {x : α} {xs : List α} {i : Nat} {a : α} : (x :: xs).set (i + 1) a = x :: xs.set i a := rfl
theorem qGz {α : Type} {x d : α} {xs : List α} : (x :: xs).getD 0 d = x := rfl
theorem qGs {α : Type} {x d : α} {xs : List α} {n : Nat} : (x :: xs).getD (n + 1) d = xs.getD n d := rfl
abbrev laAz.{u} := @List.mem_append.{u}
abbrev laBz.{u} := @List.mem_cons.{u}
abbrev laCz.{u} := @List.mem_append_right.{u}
abbrev laDz.{u} := @List.map_cons.{u}
abbrev laEz.{u} := @List.mem_append_left.{u}
abbrev laFz.{u} := @List.sublist_append_right.{u}
abbrev laGz.{u} := @List.mem_singleton.{u}
abbrev laHz.{u} := @List.getElem?_eq_some_iff.{u}
abbrev laIz.{u} := @List.cons_append.{u}
abbrev laJz.{u} := @List.nil_append.{u}
abbrev laKz.{u} := @List.mem_map.{u}
abbrev laLz.{u} := @List.mem_map_of_mem.{u}
abbrev laMz.{u} := @List.map_append.{u}
abbrev laNz.{u} := @List.length_append.{u}
abbrev laOz.{u} := @List.flatMap_cons.{u}
abbrev laPz.{u} := @List.length_cons.{u}
abbrev laQz.{u} := @List.mem_of_getElem?.{u}
abbrev laRz.{u} := @List.getElem?_eq_getElem.{u}
abbrev laSz.{u} := @List.nodup_append.{u}
abbrev laTz.{u} := @List.nodup_cons.{u}
abbrev laUz.{u} := @List.mem_of_find?_eq_some.{u}
abbrev laVz.{u} := @List.pairwise_cons.{u}
abbrev laWz.{u} := @List.flatMap_append.{u}
abbrev laXz.{u} := @List.count_append.{u}
abbrev laYz.{u} := @List.append_nil.{u}
abbrev laZz.{u} := @List.mem_flatMap.{u}
abbrev lbAz.{u} := @List.sublist_append_left.{u}
abbrev lbBz.{u} := @List.map_nil.{u}
abbrev lbCz.{u} := @List.getElem?_map.{u}
abbrev lbDz.{u} := @List.getD_eq_getElem?_getD.{u}
abbrev lbEz.{u} := @List.count_cons.{u}
abbrev lbFz.{u} := @List.getElem?_cons_succ.{u}
abbrev lbGz.{u} := @List.find?_cons.{u}
abbrev lbHz.{u} := @List.mem_filter.{u}
abbrev lbIz.{u} := @List.drop_eq_getElem_cons.{u}
abbrev lbJz.{u} := @List.take_add_one.{u}
abbrev lbKz.{u} := @List.append_eq.{u}
abbrev lbLz.{u} := @List.count_nil.{u}
abbrev lbMz.{u} := @List.length_map.{u}
abbrev lbNz.{u} := @List.filter_cons.{u}
abbrev lbOz.{u} := @List.map_toArray.{u}
abbrev lbPz.{u} := @List.getElem?_cons_zero.{u}
abbrev lbQz.{u} := @List.length_singleton.{u}
abbrev lbRz.{u} := @List.not_mem_nil.{u}
abbrev lbSz.{u} := @List.take_length.{u}
abbrev lbTz.{u} := @List.length_take.{u}
abbrev lbUz.{u} := @List.flatMap_singleton.{u}
abbrev lbVz.{u} := @List.map_congr_left.{u}
abbrev lbWz.{u} := @List.length_eq_zero_iff.{u}
abbrev lbXz.{u} := @List.length_drop.{u}
abbrev lbYz.{u} := @List.length_filter_le.{u}
abbrev lbZz.{u} := @List.map_map.{u}
abbrev lcAz.{u} := @List.append_assoc.{u}
abbrev lcBz.{u} := @List.eq_nil_of_length_eq_zero.{u}
abbrev lcCz.{u} := @List.sum_cons.{u}
abbrev lcDz.{u} := @List.eq_nil_or_concat.{u}
abbrev lcEz.{u} := @List.concat_eq_append.{u}
abbrev lcFz.{u} := @List.getElem?_drop.{u}
abbrev lcGz.{u} := @List.length_nil.{u}
abbrev lcHz.{u} := @List.nodup_nil.{u}
abbrev lcIz.{u} := @List.mem_of_mem_take.{u}
abbrev lcJz.{u} := @List.pairwise_map.{u}
abbrev lcKz.{u} := @List.getElem?_take.{u}
abbrev lcLz.{u} := @List.filter_eq_self.{u}
abbrev lcMz.{u} := @List.perm_middle.{u}
abbrev lcNz.{u} := @List.find?_eq_none.{u}
abbrev lcOz.{u} := @List.find?_some.{u}
abbrev lcPz.{u} := @List.drop_length.{u}
abbrev lcQz.{u} := @List.getElem?_append_left.{u}
abbrev lcRz.{u} := @List.toList_toArray.{u}
abbrev lcSz.{u} := @List.singleton_append.{u}
abbrev lcTz.{u} := @List.getElem?_eq_none.{u}
abbrev lcUz.{u} := @List.getElem?_toArray.{u}
abbrev lcVz.{u} := @List.take_append_drop.{u}
abbrev lcWz.{u} := @List.perm_append_comm.{u}
abbrev lcXz.{u} := @List.take_append_of_le_length.{u}
abbrev lcYz.{u} := @List.pairwise_singleton.{u}
abbrev lcZz.{u} := @List.find?_filter.{u}
abbrev ldAz.{u} := @List.countP_pos_iff.{u}
abbrev ldBz.{u} := @List.drop_zero.{u}
abbrev ldCz.{u} := @List.getElem?_append_right.{u}
abbrev ldDz.{u} := @List.map_singleton.{u}
abbrev ldEz.{u} := @List.filter_append.{u}
abbrev ldFz.{u} := @List.find?_map.{u}
abbrev ldGz.{u} := @List.pairwise_append.{u}
abbrev ldHz.{u} := @List.getElem?_set_ne.{u}
abbrev ldIz.{u} := @List.foldl_append.{u}
abbrev ldJz.{u} := @List.filter_map.{u}
abbrev ldKz.{u} := @List.foldl_cons.{u}
abbrev ldLz.{u} := @List.flatMap_def.{u}
abbrev ldMz.{u} := @List.any_eq_true.{u}
abbrev ldNz.{u} := @List.take_of_length_le.{u}
abbrev ldOz.{u} := @List.all_append.{u}
abbrev ldPz.{u} := @List.isPrefixOf.{u}
abbrev ldQz.{u} := @List.countP_cons.{u}
abbrev ldRz.{u} := @List.all_eq_true.{u}
abbrev ldSz.{u} := @List.drop_succ_cons.{u}
abbrev ldTz.{u} := @List.take_succ_cons.{u}
abbrev ldUz.{u} := @List.sum_append.{u}
section
open Go.RowKit Go.ChangeShapes Go.WideShapes
abbrev Rep(α:Type):=World→Nat→List Value→α→Prop
def Same(B:Nat)(w w':World):Prop:= ∀ p:Addr,p.block<B→w'.cell? p=w.cell? p
theorem Same.refl(B:Nat)(w:World):Same B w w:=fun _ _=>rfl
theorem Same.trans{B:Nat}{a b c:World}(h:Same B a b)(k:Same B b c):Same B a c:=fun p hp=>(k p hp).trans (h p hp)
theorem Same.of_below{B B':Nat}{w w':World}(h:Below B' w w')(hB:B≤B'):Same B w w':=fun _ hp=>h.cell (Nat.lt_of_lt_of_le hp hB)
structure Kept {α:Type} (R:Rep α):Prop where
 go: ∀ {w w':World} {B B':Nat} {cs:List Value} {x:α},Same B w w'→B≤B'→R w B cs x→R w' B' cs x
theorem Kept.out{α:Type}{R:Rep α}(h:Kept R){w w':World}{B:Nat}{cs:List Value}{x:α}(hs:Same B w w')(hr:R w B cs x):R w' B cs x:=h.go hs (Nat.le_refl _) hr
theorem Kept.more{α:Type}{R:Rep α}(h:Kept R){w:World}{B B':Nat}{cs:List Value}{x:α}(hB:B≤B')(hr:R w B cs x):R w B' cs x:=h.go (Same.refl B w) hB hr
structure Opens (P:Program) (t:TypeId) {α:Type} (R:Rep α):Prop where
 out: ∀ {H:Type} {enc:TypeId×Value→H} {w:World} {sp:Nat→Bool} {held:Bool} {n B:Nat} {cs:List Value} {y:DataW H×List MemPlace},
  DataW.trod enc P w 0 sp held n t cs=some y→(∀ p∈y.2,p.block<B)→ ∃ x,R w B cs x
/-! ### numbers,bools,strings -/
def RInt(k:IntKind):Rep Int:=fun _ _ cs x=>cs=[.int k x]∧(Lit.int k x).wf=true
def RStr:Rep ByteArray:=fun _ _ cs x=>cs=[.string x]∧x.size≤maxLen
theorem zdL{P:Program}{t:TypeId}{k:IntKind}(ht:P.underlying t=some (.int k)):Opens P t (RInt k):=
 ⟨fun h _=>by obtain⟨n,rfl,_,wf⟩:=DataW.trod_int ht h;exact⟨n,rfl,wf⟩⟩
theorem zjn{P:Program}{t:TypeId}(ht:P.underlying t=some .string):Opens P t RStr:=
 ⟨fun h _=>by obtain⟨s,rfl,_,hs⟩:=DataW.trod_string ht h;exact⟨s,rfl,hs⟩⟩
/-! ### slices -/
def znn(size:Nat){α:Type}(R:Rep α):Rep (List α):=fun w B cs xs=>
 ∃ (a:Option Addr) (cap:Nat),cs=[.slice a xs.length cap]∧xs.length≤cap∧cap≤maxLen∧(a=none→cap=0)∧
  (0<xs.length→ ∃ b off,a=some ⟨b,off,none⟩∧b<B∧
   ∀ i x,xs[i]? =some x→ ∃ es:List Value,es.length=size∧(∀ j,j<size→w.cell? ⟨b,off+i*size+j,none⟩=es[j]?)∧R w B es x)
theorem zeZ{α:Type}(n:Nat)(p:Nat→α→Prop)(h: ∀ i,i<n→ ∃ x,p i x): ∃ xs:List α,xs.length=n∧ ∀ i x,xs[i]? =some x→p i x:=by
 induction n with
 |zero=>exact⟨[],rfl,fun i x hx=>by simp at hx⟩
 |succ n ih=>
  obtain⟨xs,hl,hx⟩:=ih fun i hi=>h i (by omega)
  obtain⟨x,hn⟩:=h n (by omega)
  refine⟨xs++[x],by simp[hl],fun i y hy=> ?_⟩
  rcases Nat.lt_trichotomy i n with hlt|rfl|hgt
  ·rw[lcQz (by omega)] at hy;exact hx i y hy
  ·rw[ldCz (by omega)] at hy
   simp[hl] at hy;subst hy;exact hn
  ·rw[lcTz (by simp[hl];omega)] at hy;cases hy
theorem zfk{P:Program}{t e:TypeId}{size:Nat}{α:Type}{R:Rep α}(ht:P.underlying t=some (.slice e))(hsz:P.cellsOf e=size)(hpos:0<size)(hR:Opens P e R):Opens P t (znn size R):=⟨by
 intro H enc w sp held n B cs y h hp
 rcases Go.Deep.open_slice ht h with ⟨rfl,rfl⟩|⟨a,len,cap,m,n',D,Pl,rfl,_,hl,hm,hmm,rfl,hi⟩
 ·exact⟨[],none,0,rfl,Nat.le_refl _,by simp[maxLen],fun _=>rfl,fun h=>absurd h (Nat.lt_irrefl _)⟩
 ·have hlm:len≤m:=by rw[hmm];split<;> omega
  have hpl: ∀ i,i<m→ ∀ p∈Pl i,p.block<B:=fun i hi' p hp'=>hp p (by
   simp only[laAz,laZz,List.mem_range]
   exact .inr ⟨i,hi',hp'⟩)
  by_cases h0:len=0
  ·subst h0
   exact⟨[],some a,cap,rfl,Nat.zero_le _,hm,(fun h=>by cases h),fun h=>absurd h (Nat.lt_irrefl _)⟩
  ·have hB:a.block<B:=by
    have:=hp (.cell a.block (a.off+0)) (by
     simp only[laAz]
     left
     unfold MemPlace.row
     rw[laKz]
     exact⟨0,by rw[List.mem_range,hsz];exact Nat.mul_pos (by omega) hpos,rfl⟩)
    exact this
   have hspot:a.spot=none:=by
    obtain⟨cs',hc,_⟩:=hi 0 (by omega)
    obtain⟨_,_,hat⟩:=World.cells?_some hc
    have h1:=hat 0 (by rw[hsz];exact hpos)
    have hlen:=(World.cells?_some hc).2.1
    rw[laRz (by rw[hlen,hsz];exact hpos)] at h1
    have:=World.cell?_spot h1
    simpa[Addr.add] using this
   obtain⟨xs,hxl,hxs⟩:=zeZ (α:=α) len (fun i x=> ∃ es:List Value,es.length=size∧(∀ j,j<size→w.cell? ⟨a.block,a.off+i*size+j,none⟩=es[j]?)∧R w B es x) (fun i hil=>by
    obtain⟨cs',hc,ht'⟩:=hi i (by omega)
    obtain⟨_,hlen,hat⟩:=World.cells?_some hc
    obtain⟨x,hx⟩:=hR.out ht' (fun p hp'=>hpl i (by omega) p hp')
    refine⟨x,cs',by rw[hlen,hsz],fun j hj=> ?_,hx⟩
    rw[←hat j (by rw[hsz];exact hj),hsz]
    congr 1
    obtain⟨b,off,spot⟩:=a
    simp only at hspot
    subst hspot
    rw[Go.Deep.add_add]
    unfold Addr.add
    by_cases h0:i*size+j=0
    ·rw[if_pos h0]
     simp only[Addr.mk.injEq,and_true,true_and]
     omega
    ·rw[if_neg h0]
     simp only[Addr.mk.injEq,and_true,true_and]
     omega)
   subst hxl
   refine⟨xs,some a,cap,rfl,hl,hm,(fun h=>by cases h),fun _=>⟨a.block,a.off, ?_,hB,hxs⟩⟩
   obtain⟨b,off,spot⟩:=a
   simp only at hspot
   subst hspot
   rfl⟩
/-! ### structs -/
theorem XQ{H:Type}{enc:TypeId×Value→H}{P:Program}{w:World}{sp:Nat→Bool}{held:Bool}{n B:Nat}{t:TypeId}{fs:Array Field}{cs:List Value}{y:DataW H×List MemPlace}
  (ht:P.underlying t=some (.struct fs)) (h:DataW.trod enc P w 0 sp held n t cs=some y) (hp: ∀ p∈y.2,p.block<B):
  cs.length=P.cellsOf t∧ ∀ (i:Nat) (f:Field) {α:Type} {R:Rep α},fs[i]? =some f→Opens P f.type R→ ∃ x,R w B ((cs.drop f.offset).take (P.cellsOf f.type)) x:=by
 obtain⟨xs,n',_,rfl,hlen,hxl,hf⟩:=DataW.trod_struct ht h
 refine⟨hlen,fun i f α R hi hR=> ?_⟩
 have h1:=hf i f hi
 have hil:i<xs.length:=by rw[hxl];exact(Array.getElem?_eq_some_iff.1 hi).1
 rw[laRz hil] at h1
 refine hR.out h1 (fun p hp'=>hp p ?_)
 simp only[laZz]
 exact⟨xs[i],List.getElem_mem hil,hp'⟩
end
section
open Go.RowKit
theorem zj:maxLen=9223372036854775807:=by decide
theorem zK{α:Type}{xs:List α}{k:Nat}(h:k<xs.length): ∃ x,xs[k]? =some x:=⟨xs[k],laRz h⟩
theorem Same.alloc(B:Nat)(w:World)(o:Obj)(hB:B≤w.heap.size):Same B w (w.alloc o):=Same.of_below ((Below.refl w.heap.size w).alloc (Nat.le_refl _) o) hB
structure BoxedAt (w wx:World) (cs:List Value):Prop where
 below:Below w.heap.size w wx
 size:w.heap.size<wx.heap.size
 cell: ∀ j v,cs[j]? =some v→wx.cell? ⟨w.heap.size,j,none⟩=some v
theorem BoxedAt.alloc(w:World)(cs:List Value)(t:TypeId):BoxedAt w (w.alloc (.cells cs.toArray t)) cs where
 below:=(Below.refl _ _).alloc (Nat.le_refl _) _
 size:=by simp
 cell:=fun j v h=>by
  have:(w.alloc (.cells cs.toArray t)).heap[w.heap.size]? =some (.cells cs.toArray t (0,0)):=heap_alloc_new w _
  rw[cell_of_row _ _ j _ _ _ this]
  simpa using h
theorem BoxedAt.on{w wx wy:World}{cs:List Value}(h:BoxedAt w wx cs)(hb:Below wx.heap.size wx wy):BoxedAt w wy cs where
 below:=h.below.trans (hb.mono (Nat.le_of_lt h.size))
 size:=Nat.lt_of_lt_of_le h.size hb.size
 cell:=fun j v hj=>(hb.cell (p:=⟨w.heap.size,j,none⟩) h.size).trans (h.cell j v hj)
theorem BoxedAt.on'{w wx wy:World}{cs:List Value}(h:BoxedAt w wx cs)(hb:Below (w.heap.size+1) wx wy):BoxedAt w wy cs where
 below:=h.below.trans (hb.mono (by omega))
 size:=Nat.lt_of_lt_of_le h.size hb.size
 cell:=fun j v hj=>(hb.cell (p:=⟨w.heap.size,j,none⟩) (by simp)).trans (h.cell j v hj)
theorem BoxedAt.grown{w wx wy:World}{cs:List Value}{row:Option Nat}(h:BoxedAt w wx cs)(hg:wx.grownBy wy row)(hr: ∀ k,row=some k→w.heap.size<k):BoxedAt w wy cs:=
 h.on' ((Below.refl (w.heap.size+1) wx).grown hg (by have:=h.size;omega) (fun k hk=>by have:=hr k hk;omega))
theorem Kept.on{α:Type}{R:Rep α}(h:Kept R){w w':World}{cs:List Value}{x:α}(hb:Below w.heap.size w w')(hr:R w w.heap.size cs x):R w' w'.heap.size cs x:=
 h.go (Same.of_below hb (Nat.le_refl _)) hb.size hr
structure HoldsAt (w0 w:World) (g:Nat) (cs:List Value):Prop where
 below:Below w0.heap.size w0 w
 lt:g<w.heap.size
 cell: ∀ j v,cs[j]? =some v→w.cell? ⟨g,j,none⟩=some v
theorem HoldsAt.on{w0 w w':World}{g:Nat}{cs:List Value}(h:HoldsAt w0 w g cs)(hs:w0.heap.size≤w.heap.size)(hb:Below w.heap.size w w'):HoldsAt w0 w' g cs where
 below:=h.below.trans (hb.mono hs)
 lt:=Nat.lt_of_lt_of_le h.lt hb.size
 cell:=fun j v hj=>(hb.cell (p:=⟨g,j,none⟩) h.lt).trans (h.cell j v hj)
end
section
open Go.RowKit
structure Only (F:List Nat) (w w':World):Prop where
 os:w'.os=w.os
 tape:w'.tape=w.tape
 output:w'.output=w.output
 size:w.heap.size≤w'.heap.size
 block: ∀ k,k<w.heap.size→k∉F→w'.heap[k]? =w.heap[k]?
theorem Only.refl(F:List Nat)(w:World):Only F w w:=⟨rfl,rfl,rfl,Nat.le_refl _,fun _ _ _=>rfl⟩
theorem Only.trans{F:List Nat}{a b c:World}(h:Only F a b)(k:Only F b c):Only F a c:=
 ⟨k.os.trans h.os,k.tape.trans h.tape,k.output.trans h.output,Nat.le_trans h.size k.size,fun i hi hn=>(k.block i (Nat.lt_of_lt_of_le hi h.size) hn).trans (h.block i hi hn)⟩
theorem Only.then{F F':List Nat}{a b c:World}(h:Only F a b)(k:Only F' b c)(hF: ∀ x∈F',x∈F∨a.heap.size≤x):Only F a c:=
 ⟨k.os.trans h.os,k.tape.trans h.tape,k.output.trans h.output,Nat.le_trans h.size k.size,fun i hi hn=>(k.block i (Nat.lt_of_lt_of_le hi h.size) (fun hm=>by rcases hF i hm with h1|h1;exact hn h1;omega)).trans (h.block i hi hn)⟩
theorem Only.mono{F F':List Nat}{a b:World}(h:Only F a b)(hF: ∀ x∈F,x∈F'):Only F' a b:=⟨h.os,h.tape,h.output,h.size,fun i hi hn=>h.block i hi fun hm=>hn (hF i hm)⟩
theorem Only.drew{F:List Nat}{a w:World}(h:Only F a w):Only F a w.drew:=⟨h.os,h.tape,h.output,h.size,h.block⟩
theorem Only.alloc{F:List Nat}{a w:World}(h:Only F a w)(o:Obj):Only F a (w.alloc o):=
 h.trans ⟨rfl,rfl,rfl,by simp,fun k hk _=>Below.heap_alloc _ _ _ hk⟩
theorem Only.setCell{F:List Nat}{a w:World}(h:Only F a w){p:Addr}(hp:p.block∈F∨a.heap.size≤p.block)(u:Value):Only F a (w.setCell p u):=
 ⟨h.os,h.tape,h.output,by simp only[World.setCell,Array.size_modify];exact h.size,fun k hk hn=>(Below.heap_setCell _ _ _ _ (fun e=>by subst e;rcases hp with h1|h1;exact hn h1;omega)).trans (h.block k hk hn)⟩
theorem Only.below{F:List Nat}{a w w':World}(h:Only F a w)(hb:Below a.heap.size w w'):Only F a w':=
 ⟨hb.os.trans h.os,hb.tape.trans h.tape,hb.output.trans h.output,Nat.le_trans h.size hb.size,fun k hk hn=>(hb.block k hk).trans (h.block k hk hn)⟩
theorem Only.of_below{F:List Nat}{w w':World}(hb:Below w.heap.size w w'):Only F w w':=(Only.refl F w).below hb
theorem Only.to_below{F:List Nat}{a w:World}(h:Only F a w){B:Nat}(hB:B≤a.heap.size)(hF: ∀ x∈F,B≤x):Below B a w:=
 ⟨h.os,h.tape,h.output,h.size,fun k hk=>h.block k (by omega) (fun hm=>by have:=hF k hm;omega)⟩
theorem ZB{w:World}{b:Nat}{cs:Array Value}{T:TypeId}{fz:Nat×Nat}(h:w.heap[b]? =some (.cells cs T fz))(j:Nat):w.cell? ⟨b,j,none⟩=cs[j]? :=cell_of_row _ _ j _ _ _ h
theorem ZH{w:World}{b:Nat}{cs:Array Value}{T:TypeId}(h:w.heap[b]? =some (.cells cs T (0,0)))(j:Nat):w.frozen? ⟨b,j,none⟩=false:=by
 simp[World.frozen?,h]
theorem yW{w:World}{b:Nat}{cs:Array Value}{T:TypeId}{fz:Nat×Nat}(h:w.heap[b]? =some (.cells cs T fz))(j:Nat)(v:Value):(w.setCell ⟨b,j,none⟩ v).heap[b]? =some (.cells (cs.setIfInBounds j v) T fz):=by
 simp only[World.setCell,Array.getElem?_modify,if_pos,h,Option.map_some]
 rfl
theorem yp{w:World}{b:Nat}(j:Nat)(v:Value){k:Nat}(hk:k≠b):(w.setCell ⟨b,j,none⟩ v).heap[k]? =w.heap[k]? :=Below.heap_setCell _ _ _ _ hk
theorem zH(w:World)(o:Obj):(w.alloc o).heap.size=w.heap.size+1:=by simp
end
section
open Go.RowKit Go.Maps Go.WideShapes
def Ze:Value→Option (DataW Value×List MemPlace):=fun v=>some (.held v,[])
def Zh(l:List (Lit×Value)):DataW Value:= .map (l.map fun p=>(p.1,DataW.held p.2))
def zA(P:Program)(k:TypeId)(w:World)(b:Nat)(l:List (Lit×Value)):Prop:=w.ownsMap P k Ze b l.length (Zh l)
def yb(l:List (Lit×Value))(kl:Lit)(z:Value):Value:=
 match l.find? fun p=>p.1.sameKey kl with
 |some p=>p.2
 |none=>z
def insL(x:Lit×Value):List (Lit×Value)→List (Lit×Value)
 |[]=>[x]
 |y::r=>if x.1.before y.1 then x::y::r else y::insL x r
def delL(kl:Lit)(l:List (Lit×Value)):List (Lit×Value):=l.filter fun p=> !p.1.sameKey kl
def putL(kl:Lit)(v:Value)(l:List (Lit×Value)):List (Lit×Value):=insL (kl,v) (delL kl l)
theorem zcu(l:List (Lit×Value))(kl:Lit)(z:Value):(Zh l).atKey kl (.held z)= .held (yb l kl z):=by
 unfold Zh yb DataW.atKey
 simp only
 rw[ldFz]
 rw[show(fun p:Lit×DataW Value=>p.1.sameKey kl)∘(fun p:Lit×Value=>(p.1,DataW.held p.2))=fun p=>p.1.sameKey kl from rfl]
 cases l.find? fun p=>p.1.sameKey kl<;> rfl
theorem zbn(x:Lit×Value): ∀ l:List (Lit×Value),DataW.insert (x.1,.held x.2) (l.map fun p=>(p.1,DataW.held p.2))=(insL x l).map fun p=>(p.1,DataW.held p.2)
 |[]=>rfl
 |y::r=>by
  unfold insL
  simp only[laDz,DataW.insert]
  split
  ·rfl
  ·simp[zbn x r]
theorem zaw(kl:Lit)(l:List (Lit×Value)):(l.map fun p=>(p.1,DataW.held p.2)).filter (fun (p:Lit×DataW Value)=> !p.1.sameKey kl)=(delL kl l).map fun p=>(p.1,DataW.held p.2):=by
 unfold delL
 rw[ldJz]
 rfl
theorem zmg(kl:Lit)(v:Value)(l:List (Lit×Value)):(Zh l).put kl (.held v)=Zh (putL kl v l):=by
 show DataW.map (DataW.insert (kl,.held v) ((l.map fun p=>(p.1,DataW.held p.2)).filter fun p=> !p.1.sameKey kl))=_
 rw[zaw,zbn (kl,v)]
 rfl
theorem zgF(kl:Lit)(l:List (Lit×Value)):(Zh l).del kl=Zh (delL kl l):=by
 show DataW.map ((l.map fun p=>(p.1,DataW.held p.2)).filter fun p=> !p.1.sameKey kl)=_
 rw[zaw]
 rfl
theorem yl(l:List (Lit×Value)):Maps.size (Zh l)=l.length:=by simp[Zh,Maps.size]
section
variable {P:Program}{k:TypeId}{w:World}{b n:Nat}{l:List (Lit×Value)}
theorem zpo{D:DataW Value}(h:w.ownsMap P k Ze b n D):w.ownsMap P k Ze b (Maps.size D) D:=by
 obtain⟨es,clock,hb,F,hs,rfl⟩:=h
 refine⟨es,clock,hb,F, ?_,rfl⟩
 show es.size≤((es.toList.map _).foldr DataW.insert []).length
 rw[length_sorted]
 simp
theorem zA.of{l:List (Lit×Value)}(h:w.ownsMap P k Ze b n (Zh l)):zA P k w b l:=by
 have:=zpo h
 rwa [yl] at this
theorem zA.made(w:World):zA P k (w.alloc (.map #[] 0)) w.heap.size []:=World.ownsMap_made _ _ _ _
theorem zA.lt(h:zA P k w b l):b<w.heap.size:=World.ownsMap.lt h
theorem zA.on{w':World}(h:zA P k w b l)(hb:w'.heap[b]? =w.heap[b]?):zA P k w' b l:=by
 obtain⟨es,clock,h1,F,hs,hD⟩:=h
 exact⟨es,clock,hb.trans h1,F,hs,hD⟩
theorem zA.sorted(h:zA P k w b l)(K:Keyed P k):l.Pairwise fun p q=>p.1.before q.1=true:=by
 obtain⟨es,e,hp,_⟩:=World.ownsMap.canon h K
 simp only[Zh,DataW.map.injEq] at e
 subst e
 rw[lcJz] at hp
 exact hp
theorem zA.keys(h:zA P k w b l)(K:Keyed P k): ∀ p∈l,WideAt.IsKeyLit p.1:=by
 obtain⟨es,e,_,hk⟩:=World.ownsMap.canon h K
 simp only[Zh,DataW.map.injEq] at e
 subst e
 intro p hp
 exact hk (p.1,.held p.2) (laKz.2 ⟨p,hp,rfl⟩)
theorem zA.look{t e:TypeId}(h:zA P k w b l)(K:Keyed P k)(ht:P.underlying t=some (.map k e)){z:Value}(hz:(zeroValue e).run P w= .ok z w){key:Value}{kl:Lit}(hkey:keyOf P k key=some kl):
  (Instr.lookup t (.map (some b)) key false).run P w= .ok (yb l kl z) w:=by
 obtain⟨v,ps,hr,hv⟩:=World.ownsMap.lookup h K ht hz (zd:= .held z) (zp:=[]) rfl hkey
 rw[zcu] at hv
 simp only[Ze,Option.some.injEq,Prod.mk.injEq,DataW.held.injEq] at hv
 rw[hr,hv.1]
theorem zA.store{t e:TypeId}(h:zA P k w b l)(K:Keyed P k)(ht:P.underlying t=some (.map k e))(hn:l.length<maxLen){key val:Value}{kl:Lit}(hkey:keyOf P k key=some kl):
  ∃ w',(Instr.mapUpdate t (.map (some b)) key val).run P w= .ok () w'∧zA P k w' b (putL kl val l)∧w.mapTurned w' b:=by
 obtain⟨es,clock,hb,F,hs,hD⟩:=h
 obtain⟨es',clock',hrun,F',hput,_⟩:=Maps.fit_store (R':=Ze) K ht hb F (Nat.lt_of_le_of_lt hs hn) (fun _ _ _ _ hz=>hz) (val:=val) hkey rfl
 refine⟨_,hrun,zA.of (n:=es'.size) ⟨es',clock',ChangeMaps.heap_setBlock_same hb _,F',Nat.le_refl _, ?_⟩,es,clock,es',clock',hb,rfl⟩
 rw[hput,←zmg,hD,DataW.put_eq]
theorem zA.drop{t e ty:TypeId}(h:zA P k w b l)(K:Keyed P k)(ht:P.underlying t=some (.map k e)){key:Value}{kl:Lit}(hkey:keyOf P k key=some kl):
  ∃ w',(Builtin.delete_ #[t,k] ty #[.map (some b),key]).run P w= .ok (.tuple #[]) w'∧zA P k w' b (delL kl l)∧w.mapTurned w' b:=by
 obtain⟨w',hrun,h1,h2⟩:=World.ownsMap.drop h K ht hkey ty
 rw[zgF] at h1
 exact⟨w',hrun,zA.of h1,h2⟩
theorem zA.len{t e:TypeId}(h:zA P k w b l)(ht:P.underlying t=some (.map k e))(ty:TypeId):(Builtin.len_ #[t] ty #[.map (some b)]).run P w= .ok (.int .i64 l.length) w:=by
 have:=World.ownsMap.len h ht ty
 rwa [yl] at this
end
theorem Only.turned{F:List Nat}{a w w':World}{b:Nat}(h:Only F a w)(ht:w.mapTurned w' b)(hb:b∈F∨a.heap.size≤b):Only F a w':=by
 have g:=ht.grown
 exact⟨g.os.trans h.os,g.tape.trans h.tape,g.output.trans h.output,Nat.le_trans h.size g.size,fun k hk hn=>(g.block k (Nat.lt_of_lt_of_le hk h.size) (fun e=>by cases e;rcases hb with h1|h1;exact hn h1;omega)).trans (h.block k hk hn)⟩
theorem Zm{w w':World}{b:Nat}(h:w.mapTurned w' b){i:Nat}(hi:i≠b):w'.heap[i]? =w.heap[i]? :=by
 obtain⟨es,clock,es',clock',hb,rfl⟩:=h
 exact ChangeMaps.heap_setBlock_other hb _ hi
end
section
structure NodeD where
 id:Int
 dir:Bool
 links:Int
 holds:Int
 data:ByteArray
 names:List (ByteArray×Int)
structure TabD where
 quota:Int
 used:Int
 last:Int
 nodes:List NodeD
def NodeD.setNames(n:NodeD)(d:List (ByteArray×Int)):NodeD:={n with names:=d}
def NodeD.setLinks(n:NodeD)(k:Int):NodeD:={n with links:=k}
def NodeD.setHolds(n:NodeD)(k:Int):NodeD:={n with holds:=k}
def NodeD.setData(n:NodeD)(d:ByteArray):NodeD:={n with data:=d}
namespace In
def before(a b:ByteArray):Bool:=bytesBefore a.data.toList b.data.toList
def same(a b:ByteArray):Bool:=a.data.toList==b.data.toList
def find(l:List NodeD)(id:Int):Option NodeD:=l.find? fun n=>n.id==id
def leads(d:List (ByteArray×Int))(s:ByteArray):Int:=
 match d.find? fun p=>same p.1 s with
 |some p=>p.2
 |none=>0
def put(x:ByteArray×Int):List (ByteArray×Int)→List (ByteArray×Int)
 |[]=>[x]
 |y::r=>if before x.1 y.1 then x::y::r else y::put x r
def without(d:List (ByteArray×Int))(s:ByteArray):List (ByteArray×Int):=d.filter fun p=> !same p.1 s
def with_(d:List (ByteArray×Int))(s:ByteArray)(id:Int):List (ByteArray×Int):=put (s,id) (without d s)
def set(l:List NodeD)(n:NodeD):List NodeD:=l.map fun m=>if m.id==n.id then n else m
def del(l:List NodeD)(id:Int):List NodeD:=l.filter fun m=> !(m.id==id)
def at_(t:TabD)(id:Int):NodeD:=
 match find t.nodes id with
 |some n=>n
 |none=>⟨id,false,0,0,ByteArray.empty,[]⟩
def setN(t:TabD)(n:NodeD):TabD:={t with nodes:=set t.nodes n}
def nameIn(t:TabD)(dir:Int)(s:ByteArray)(id:Int):TabD:=setN t ((at_ t dir).setNames (with_ (at_ t dir).names s id))
def nameOut(t:TabD)(dir:Int)(s:ByteArray):TabD:=setN t ((at_ t dir).setNames (without (at_ t dir).names s))
def linksUp(t:TabD)(id:Int):TabD:=setN t ((at_ t id).setLinks ((at_ t id).links+1))
def linksDown(t:TabD)(id:Int):TabD:=setN t ((at_ t id).setLinks ((at_ t id).links - 1))
def holdsUp(t:TabD)(id:Int):TabD:=setN t ((at_ t id).setHolds ((at_ t id).holds+1))
def holdsDown(t:TabD)(id:Int):TabD:=setN t ((at_ t id).setHolds ((at_ t id).holds - 1))
def getE(t:TabD)(id:Int)(dir:Bool):Int:=
 match find t.nodes id with
 |none=>3
 |some n=>if n.dir==dir then 0 else 12
def isName(s:ByteArray):Bool:=decide (1≤s.size)&&decide (s.size≤32)&& !(s.data.toList.any fun c=>c==0||c==47)&& !(s.data.toList==[46])&& !(s.data.toList==[46,46])
def placeE(t:TabD)(dir:Int)(s:ByteArray):Int:=
 if getE t dir true==0 then(if isName s then 0 else 1) else getE t dir true
def emptyE(t:TabD)(dir:Int)(s:ByteArray):Int:=
 if placeE t dir s==0 then(if leads (at_ t dir).names s==0 then 0 else 4) else placeE t dir s
def gone(t:TabD)(id:Int):TabD:=
 if(at_ t id).links==0&&(at_ t id).holds==0 then {t with used:=t.used - (64+(at_ t id).data.size),nodes:=del t.nodes id} else t
def makeE(t:TabD)(dir:Int)(s:ByteArray):Int:=
 if emptyE t dir s==0 then(if decide (4096≤(t.nodes.length:Int)) then 5 else if decide (t.quota - t.used<64) then 6 else 0) else emptyE t dir s
def makeT(t:TabD)(dir:Int)(s:ByteArray)(isDir:Bool):TabD:=
 ⟨t.quota,t.used+64,t.last+1,(nameIn t dir s (t.last+1)).nodes++[⟨t.last+1,isDir,1,0,ByteArray.empty,[]⟩]⟩
def make(t:TabD)(dir:Int)(s:ByteArray)(isDir:Bool):Int×Int×TabD:=
 if makeE t dir s==0 then(t.last+1,0,makeT t dir s isDir) else(0,makeE t dir s,t)
def findE(t:TabD)(dir:Int)(s:ByteArray):Int:=
 if placeE t dir s==0 then(if leads (at_ t dir).names s==0 then 3 else 0) else placeE t dir s
def findN(t:TabD)(dir:Int)(s:ByteArray):Int:=if findE t dir s==0 then leads (at_ t dir).names s else 0
def linkE(t:TabD)(id dir:Int)(s:ByteArray):Int:=if getE t id false==0 then emptyE t dir s else getE t id false
def linkT(t:TabD)(id dir:Int)(s:ByteArray):TabD:=linksUp (nameIn t dir s id) id
def link(t:TabD)(id dir:Int)(s:ByteArray):Int×TabD:=if linkE t id dir s==0 then(0,linkT t id dir s) else(linkE t id dir s,t)
def loses(t:TabD)(dir:Int)(s:ByteArray):TabD:=gone (linksDown (nameOut t dir s) (leads (at_ t dir).names s)) (leads (at_ t dir).names s)
def unlinkE(t:TabD)(dir:Int)(s:ByteArray):Int:=if findE t dir s==0 then getE t (findN t dir s) false else findE t dir s
def unlink(t:TabD)(dir:Int)(s:ByteArray):Int×TabD:=if unlinkE t dir s==0 then(0,loses t dir s) else(unlinkE t dir s,t)
def removeE(t:TabD)(dir:Int)(s:ByteArray):Int:=
 if findE t dir s==0 then(if getE t (findN t dir s) true==0 then(if decide (0<(at_ t (findN t dir s)).names.length) then 7 else 0) else getE t (findN t dir s) true) else findE t dir s
def remove(t:TabD)(dir:Int)(s:ByteArray):Int×TabD:=if removeE t dir s==0 then(0,loses t dir s) else(removeE t dir s,t)
def renameE(t:TabD)(dir:Int)(s:ByteArray)(tod:Int)(as_:ByteArray):Int:=
 if unlinkE t dir s==0 then
  (if placeE t tod as_==0 then
   (if leads (at_ t tod).names as_==findN t dir s then 0 else if leads (at_ t tod).names as_==0 then 0 else if(at_ t (leads (at_ t tod).names as_)).dir then 12 else 0)
  else placeE t tod as_)
 else unlinkE t dir s
def renameIn(t:TabD)(dir:Int)(s:ByteArray)(tod:Int)(as_:ByteArray)(id:Int):TabD:=nameIn (nameOut t dir s) tod as_ id
def renameT(t:TabD)(dir:Int)(s:ByteArray)(tod:Int)(as_:ByteArray):TabD:=
 if leads (at_ t tod).names as_==findN t dir s then t
 else if leads (at_ t tod).names as_==0 then renameIn t dir s tod as_ (findN t dir s)
 else renameIn (loses t tod as_) dir s tod as_ (findN t dir s)
def rename(t:TabD)(dir:Int)(s:ByteArray)(tod:Int)(as_:ByteArray):Int×TabD:=if renameE t dir s tod as_==0 then(0,renameT t dir s tod as_) else(renameE t dir s tod as_,t)
def listE(t:TabD)(dir:Int):Int:=getE t dir true
def list(t:TabD)(dir:Int):List ByteArray:=if listE t dir==0 then(at_ t dir).names.map Prod.fst else []
def fileE(t:TabD)(id n:Int):Int:=if getE t id false==0 then(if decide (n<0) then 1 else 0) else getE t id false
def part(s:ByteArray)(at_ n:Int):ByteArray:=s.extract (min at_.toNat s.size) (min at_.toNat s.size+min n.toNat (s.size - min at_.toNat s.size))
def readE(t:TabD)(id a n:Int):Int:=fileE t id (min a n)
def read(t:TabD)(id a n:Int):ByteArray:=if readE t id a n==0 then part (at_ t id).data a n else ByteArray.empty
def sizedE(t:TabD)(x:NodeD)(n:Int):Int:=if decide (1048576<n) then 5 else if decide (t.quota - t.used<n - x.data.size) then 6 else 0
def noughts(n:Nat):ByteArray:=⟨(List.replicate n 0).toArray⟩
def resized(s:ByteArray)(n:Nat):ByteArray:=(s++noughts (n - s.size)).extract 0 n
def dataOf(t:TabD)(id:Int)(v:ByteArray):TabD:=setN t ((at_ t id).setData v)
def sizedT(t:TabD)(id n:Int):TabD:=
 ⟨t.quota,t.used+(n - (at_ t id).data.size),t.last,(dataOf t id (resized (at_ t id).data n.toNat)).nodes⟩
def writeE(t:TabD)(id a:Int)(s:ByteArray):Int:=
 if fileE t id a==0 then
  (if decide (1048576<a)||decide (1048576 - a<s.size) then 5 else if s.size==0 then 0 else sizedE t (at_ t id) (max (a+s.size) (at_ t id).data.size))
 else fileE t id a
def over(d:ByteArray)(a:Nat)(s:ByteArray):ByteArray:=d.extract 0 a++s++d.extract (a+s.size) d.size
def overT(t:TabD)(id a:Int)(s:ByteArray):TabD:=dataOf t id (over (at_ t id).data a.toNat s)
def writeT(t:TabD)(id a:Int)(s:ByteArray):TabD:=
 if s.size==0 then t else overT (sizedT t id (max (a+s.size) (at_ t id).data.size)) id a s
def write(t:TabD)(id a:Int)(s:ByteArray):Int×TabD:=if writeE t id a s==0 then(0,writeT t id a s) else(writeE t id a s,t)
def truncE(t:TabD)(id n:Int):Int:=if fileE t id n==0 then sizedE t (at_ t id) n else fileE t id n
def trunc(t:TabD)(id n:Int):Int×TabD:=if truncE t id n==0 then(0,sizedT t id n) else(truncE t id n,t)
def holdE(t:TabD)(id:Int):Int:=if getE t id false==0 then(if decide (1048576≤(at_ t id).holds) then 5 else 0) else getE t id false
def hold(t:TabD)(id:Int):Int×TabD:=if holdE t id==0 then(0,holdsUp t id) else(holdE t id,t)
def dropE(t:TabD)(id:Int):Int:=
 match find t.nodes id with
 |none=>3
 |some n=>if n.holds==0 then 1 else 0
def drop(t:TabD)(id:Int):Int×TabD:=if dropE t id==0 then(0,gone (holdsDown t id) id) else(dropE t id,t)
def new(quota:Int):TabD:=⟨quota,64,1,[⟨1,true,1,0,ByteArray.empty,[]⟩]⟩
def newE(quota:Int):Int:=if decide (quota<64)||decide (1099511627776<quota) then 1 else 0
end In
end
section
open Go.RowKit Go.Maps Go.WideShapes
abbrev Fits(x:Int):Prop:=(Lit.int .i64 x).wf=true
theorem Zy{x:Int}(h1: -9223372036854775808≤x)(h2:x≤9223372036854775807):Fits x:=WalkArith.wf_i64 ⟨h1,h2⟩
theorem zkc{x:Int}(h:Fits x): -9223372036854775808≤x∧x≤9223372036854775807:=by
 have h':(decide (IntKind.i64.min≤x)&&decide (x≤IntKind.i64.max))=true:=h
 rw[Bool.and_eq_true,decide_eq_true_eq,decide_eq_true_eq] at h'
 exact h'
theorem yC:Keyed Tryz.prog 9:=string_keyed Tryz.underlying9
theorem zq:Keyed Tryz.prog 3:=int_keyed Tryz.underlying3
def Zk(d:List (ByteArray×Int)):List (Lit×Value):=d.map fun p=>(.string p.1.data.toList,.int .i64 p.2)
def zz(β:Int→Nat×Nat)(l:List NodeD):List (Lit×Value):=l.map fun n=>(.int .i64 n.id,.pointer (some ⟨(β n.id).1,0,none⟩))
def yF(w:World)(m:Nat)(d:List (ByteArray×Int)):Prop:=zA Tryz.prog 9 w m (Zk d)
def zkV(w:World)(m:Nat)(β:Int→Nat×Nat)(l:List NodeD):Prop:=zA Tryz.prog 3 w m (zz β l)
/-! ### names:what the map's steps are on the plain list -/
theorem zbG(d:List (ByteArray×Int))(s:ByteArray):yb (Zk d) (.string s.data.toList) (.int .i64 0)= .int .i64 (In.leads d s):=by
 unfold yb Zk In.leads
 rw[ldFz]
 rw[show(fun p:Lit×Value=>p.1.sameKey (.string s.data.toList))∘(fun p:ByteArray×Int=>(Lit.string p.1.data.toList,Value.int .i64 p.2))=fun p=>In.same p.1 s from rfl]
 cases d.find? fun p=>In.same p.1 s<;> rfl
theorem xQ(d:List (ByteArray×Int))(s:ByteArray):delL (.string s.data.toList) (Zk d)=Zk (In.without d s):=by
 unfold delL Zk In.without
 rw[ldJz]
 rfl
theorem zet(s:ByteArray)(id:Int): ∀ d:List (ByteArray×Int),insL (.string s.data.toList,.int .i64 id) (Zk d)=Zk (In.put (s,id) d)
 |[]=>rfl
 |y::r=>by
  have ih:=zet s id r
  unfold Zk at ih ⊢
  simp only[laDz,insL,In.put]
  rw[ih]
  have e:(Lit.string s.data.toList).before (.string y.1.data.toList)=In.before s y.1:=rfl
  rw[e]
  split<;> rfl
theorem Xa(d:List (ByteArray×Int))(s:ByteArray)(id:Int):putL (.string s.data.toList) (.int .i64 id) (Zk d)=Zk (In.with_ d s id):=by
 unfold putL In.with_
 rw[xQ,zet]
/-! ### inodes:the same -/
theorem zbP(β:Int→Nat×Nat)(l:List NodeD)(id:Int):
  yb (zz β l) (.int .i64 id) (.pointer none)=match In.find l id with|some n=> .pointer (some ⟨(β n.id).1,0,none⟩)|none=> .pointer none:=by
 unfold yb zz In.find
 rw[ldFz]
 rw[show(fun p:Lit×Value=>p.1.sameKey (.int .i64 id))∘(fun n:NodeD=>(Lit.int .i64 n.id,Value.pointer (some ⟨(β n.id).1,0,none⟩)))=fun n=>n.id==id from by
  funext n
  show decide (IntKind.i64=IntKind.i64∧n.id=id)=(n.id==id)
  simp[Bool.beq_eq_decide_eq]]
 cases l.find? fun n=>n.id==id<;> rfl
theorem zef(β:Int→Nat×Nat)(l:List NodeD)(id:Int):delL (.int .i64 id) (zz β l)=zz β (In.del l id):=by
 unfold delL zz In.del
 rw[ldJz]
 congr 2
 funext n
 show(!decide (IntKind.i64=IntKind.i64∧n.id=id))= !(n.id==id)
 simp[Bool.beq_eq_decide_eq]
/-! ### the table -/
structure NodeAt (w:World) (b m:Nat) (n:NodeD):Prop where
 row:w.heap[b]? =some (.cells #[.bool n.dir,.int .i64 n.links,.int .i64 n.holds,.string n.data,.map (some m)] 166 (0,0))
 names:yF w m n.names
def foot(g mb:Nat)(β:Int→Nat×Nat)(l:List NodeD):List Nat:=g::mb::l.flatMap fun n=>[(β n.id).1,(β n.id).2]
structure TblAt (w:World) (g mb:Nat) (β:Int→Nat×Nat) (t:TabD):Prop where
 row:w.heap[g]? =some (.cells #[.int .i64 t.quota,.int .i64 t.used,.int .i64 t.last,.map (some mb)] 162 (0,0))
 map:zkV w mb β t.nodes
 node: ∀ n∈t.nodes,NodeAt w (β n.id).1 (β n.id).2 n
 apart:(foot g mb β t.nodes).Nodup
theorem NodeAt.on{w w':World}{b m:Nat}{n:NodeD}(h:NodeAt w b m n)(hb:w'.heap[b]? =w.heap[b]?)(hm:w'.heap[m]? =w.heap[m]?):NodeAt w' b m n:=⟨hb.trans h.row,zA.on h.names hm⟩
theorem zE{g mb:Nat}{β:Int→Nat×Nat}{l:List NodeD}{x:Nat}:x∈foot g mb β l↔x=g∨x=mb∨ ∃ n∈l,x=(β n.id).1∨x=(β n.id).2:=by
 unfold foot
 simp only[laBz,laZz,lbRz,or_false]
theorem TblAt.on{w w':World}{g mb:Nat}{β:Int→Nat×Nat}{t:TabD}(h:TblAt w g mb β t)(hs: ∀ k∈foot g mb β t.nodes,w'.heap[k]? =w.heap[k]?):TblAt w' g mb β t where
 row:=(hs g (zE.2 (.inl rfl))).trans h.row
 map:=zA.on h.map (hs mb (zE.2 (.inr (.inl rfl))))
 node:=fun n hn=>(h.node n hn).on (hs _ (zE.2 (.inr (.inr ⟨n,hn,.inl rfl⟩)))) (hs _ (zE.2 (.inr (.inr ⟨n,hn,.inr rfl⟩))))
 apart:=h.apart
theorem zdG{w:World}{k:Nat}{o:Obj}(h:w.heap[k]? =some o):k<w.heap.size:=(Array.getElem?_eq_some_iff.1 h).1
theorem TblAt.lt{w:World}{g mb:Nat}{β:Int→Nat×Nat}{t:TabD}(h:TblAt w g mb β t): ∀ k∈foot g mb β t.nodes,k<w.heap.size:=fun k hk=>by
 rcases zE.1 hk with rfl|rfl|⟨n,hn,rfl|rfl⟩
 ·exact zdG h.row
 ·exact zA.lt h.map
 ·exact zdG (h.node n hn).row
 ·exact zA.lt (h.node n hn).names
theorem TblAt.only{w w':World}{F:List Nat}{g mb:Nat}{β:Int→Nat×Nat}{t:TabD}(h:TblAt w g mb β t)(ho:Only F w w')(hF: ∀ x∈F,x∉foot g mb β t.nodes):TblAt w' g mb β t:=
 h.on fun k hk=>ho.block k (h.lt k hk) fun hm=>hF k hm hk
theorem TblAt.below{w w':World}{g mb:Nat}{β:Int→Nat×Nat}{t:TabD}(h:TblAt w g mb β t)(hb:Below w.heap.size w w'):TblAt w' g mb β t:=
 h.on fun k hk=>hb.block k (h.lt k hk)
theorem TblAt.ids{w:World}{g mb:Nat}{β:Int→Nat×Nat}{t:TabD}(h:TblAt w g mb β t):t.nodes.Pairwise fun a b=>a.id<b.id:=by
 have:=zA.sorted h.map zq
 unfold zz at this
 rw[lcJz] at this
 exact this.imp fun h=>by simpa[Lit.before] using h
theorem zk{l:List NodeD}{id:Int}{n:NodeD}(h:In.find l id=some n):n∈l∧n.id=id:=by
 refine⟨laUz h, ?_⟩
 have:=lcOz h
 simpa using this
theorem zon{l:List NodeD}(hs:l.Pairwise fun a b=>a.id<b.id){n:NodeD}(hn:n∈l):In.find l n.id=some n:=by
 induction l with
 |nil=>cases hn
 |cons y r ih=>
  obtain⟨h1,h2⟩:=laVz.1 hs
  unfold In.find
  rw[lbGz]
  rcases laBz.1 hn with rfl|hn
  ·simp
  ·have:(y.id==n.id)=false:=by rw[beq_eq_false_iff_ne];have:=h1 n hn;omega
   rw[this]
   exact ih h2 hn
theorem mem_set{l:List NodeD}{n m:NodeD}(h:m∈In.set l n):m=n∨(m∈l∧m.id≠n.id):=by
 unfold In.set at h
 obtain⟨x,hx,rfl⟩:=laKz.1 h
 split
 ·exact .inl rfl
 ·rename_i hne
  exact .inr ⟨hx,by simpa using hne⟩
theorem ziB(β:Int→Nat×Nat)(l:List NodeD)(n:NodeD):zz β (In.set l n)=zz β l:=by
 unfold zz In.set
 rw[lbZz]
 refine lbVz fun m _=> ?_
 simp only[Function.comp]
 split
 ·rename_i h
  rw[show m.id=n.id by simpa using h]
 ·rfl
theorem yT(g mb:Nat)(β:Int→Nat×Nat)(l:List NodeD)(n:NodeD):foot g mb β (In.set l n)=foot g mb β l:=by
 unfold foot In.set
 rw[List.flatMap_map]
 congr 2
 rw[ldLz,ldLz]
 congr 1
 refine lbVz fun m _=> ?_
 split
 ·rename_i h
  rw[show m.id=n.id by simpa using h]
 ·rfl
theorem zcz{β:Int→Nat×Nat}: ∀ {l:List NodeD},(l.flatMap fun n=>[(β n.id).1,(β n.id).2]).Nodup→(l.Pairwise fun a b=>a.id<b.id)→ ∀ {n m:NodeD},n∈l→m∈l→m.id≠n.id→
  (β m.id).1≠(β n.id).1∧(β m.id).1≠(β n.id).2∧(β m.id).2≠(β n.id).1∧(β m.id).2≠(β n.id).2
 |[],_,_,_,_,hn,_,_=>by cases hn
 |y::r,hd,hs,n,m,hn,hm,hne=>by
  rw[laOz] at hd
  obtain⟨h1,h2,h3⟩:=laSz.1 hd
  obtain⟨s1,s2⟩:=laVz.1 hs
  have inr: ∀ {x:NodeD},x∈r→(β x.id).1∈(r.flatMap fun n=>[(β n.id).1,(β n.id).2])∧(β x.id).2∈(r.flatMap fun n=>[(β n.id).1,(β n.id).2]):=fun {x} hx=>
   ⟨laZz.2 ⟨x,hx,by simp⟩,laZz.2 ⟨x,hx,by simp⟩⟩
  rcases laBz.1 hn with rfl|hn'<;> rcases laBz.1 hm with rfl|hm'
  ·exact absurd rfl hne
  ·have:=inr hm'
   exact⟨fun e=>h3 (β n.id).1 (by simp) _ this.1 e.symm,fun e=>h3 (β n.id).2 (by simp) _ this.1 e.symm,fun e=>h3 (β n.id).1 (by simp) _ this.2 e.symm,fun e=>h3 (β n.id).2 (by simp) _ this.2 e.symm⟩
  ·have:=inr hn'
   exact⟨fun e=>h3 (β m.id).1 (by simp) _ this.1 e,fun e=>h3 (β m.id).1 (by simp) _ this.2 e,fun e=>h3 (β m.id).2 (by simp) _ this.1 e,fun e=>h3 (β m.id).2 (by simp) _ this.2 e⟩
  ·exact zcz h2 s2 hn' hm' hne
section
variable {w:World}{g mb:Nat}{β:Int→Nat×Nat}{t:TabD}
theorem TblAt.apart_node(h:TblAt w g mb β t){n m:NodeD}(hn:n∈t.nodes)(hm:m∈t.nodes)(hne:m.id≠n.id):
  (β m.id).1≠(β n.id).1∧(β m.id).1≠(β n.id).2∧(β m.id).2≠(β n.id).1∧(β m.id).2≠(β n.id).2:=by
 have hd:=h.apart
 unfold foot at hd
 exact zcz (laTz.1 (laTz.1 hd).2).2 h.ids hn hm hne
theorem TblAt.apart_self(h:TblAt w g mb β t){n:NodeD}(hn:n∈t.nodes):g≠mb∧g≠(β n.id).1∧g≠(β n.id).2∧mb≠(β n.id).1∧mb≠(β n.id).2:=by
 have hd:=h.apart
 unfold foot at hd
 obtain⟨h1,h2⟩:=laTz.1 hd
 obtain⟨h3,_⟩:=laTz.1 h2
 simp only[laBz,not_or] at h1
 refine⟨h1.1,fun e=>h1.2 ?_,fun e=>h1.2 ?_,fun e=>h3 ?_,fun e=>h3 ?_⟩<;> rw[e]<;> exact laZz.2 ⟨n,hn,by simp⟩
theorem TblAt.apart_two(h:TblAt w g mb β t){n:NodeD}(hn:n∈t.nodes):(β n.id).1≠(β n.id).2:=by
 intro e
 have h1:=(h.node n hn).row
 obtain⟨es,clock,h2,_⟩:=(h.node n hn).names
 rw[e,h2] at h1
 cases h1
theorem TblAt.apart_mb(h:TblAt w g mb β t):g≠mb:=by
 have hd:=h.apart
 unfold foot at hd
 have:=(laTz.1 hd).1
 simp only[laBz,not_or] at this
 exact this.1
theorem TblAt.node_upd{w':World}(h:TblAt w g mb β t){n:NodeD}{o:NodeD}(hn:In.find t.nodes n.id=some o)
  (hw: ∀ k∈foot g mb β t.nodes,k≠(β n.id).1→k≠(β n.id).2→w'.heap[k]? =w.heap[k]?) (hN:NodeAt w' (β n.id).1 (β n.id).2 n):TblAt w' g mb β (In.setN t n):=by
 obtain⟨ho,hid⟩:=zk hn
 have ax:=h.apart_self ho
 rw[hid] at ax
 refine⟨?_, ?_, ?_, ?_⟩
 ·exact(hw g (zE.2 (.inl rfl)) ax.2.1 ax.2.2.1).trans h.row
 ·show zA _ _ _ _ (zz β (In.set t.nodes n))
  rw[ziB]
  exact zA.on h.map (hw mb (zE.2 (.inr (.inl rfl))) ax.2.2.2.1 ax.2.2.2.2)
 ·intro m hm
  rcases mem_set hm with rfl|⟨hm,hne⟩
  ·exact hN
  ·have ap:=h.apart_node ho hm (by rw[hid];exact hne)
   rw[hid] at ap
   exact(h.node m hm).on (hw _ (zE.2 (.inr (.inr ⟨m,hm,.inl rfl⟩))) ap.1 ap.2.1) (hw _ (zE.2 (.inr (.inr ⟨m,hm,.inr rfl⟩))) ap.2.2.1 ap.2.2.2)
 ·show(foot g mb β (In.set t.nodes n)).Nodup
  rw[yT]
  exact h.apart
theorem TblAt.own_upd{w':World}(h:TblAt w g mb β t){q u l:Int}(hw: ∀ k∈foot g mb β t.nodes,k≠g→w'.heap[k]? =w.heap[k]?)
  (hr:w'.heap[g]? =some (.cells #[.int .i64 q,.int .i64 u,.int .i64 l,.map (some mb)] 162 (0,0))):TblAt w' g mb β ⟨q,u,l,t.nodes⟩ where
 row:=hr
 map:=zA.on h.map (hw mb (zE.2 (.inr (.inl rfl))) (fun e=>h.apart_mb e.symm))
 node:=fun n hn=>(h.node n hn).on (hw _ (zE.2 (.inr (.inr ⟨n,hn,.inl rfl⟩))) (fun e=>(h.apart_self hn).2.1 e.symm)) (hw _ (zE.2 (.inr (.inr ⟨n,hn,.inr rfl⟩))) (fun e=>(h.apart_self hn).2.2.1 e.symm))
 apart:=h.apart
theorem zoC{l:List NodeD}{id:Int}{m:NodeD}(h:m∈In.del l id):m∈l∧m.id≠id:=by
 unfold In.del at h
 obtain⟨h1,h2⟩:=lbHz.1 h
 exact⟨h1,by simpa using h2⟩
theorem XP(g mb:Nat)(β:Int→Nat×Nat)(l:List NodeD)(id:Int):(foot g mb β (In.del l id)).Sublist (foot g mb β l):=by
 unfold foot In.del
 refine List.Sublist.cons_cons _ (List.Sublist.cons_cons _ ?_)
 induction l with
 |nil=>exact List.Sublist.refl _
 |cons y r ih=>
  rw[lbNz,laOz]
  split
  ·rw[laOz]
   exact List.Sublist.append_left ih _
  ·exact ih.trans (laFz _ _)
theorem TblAt.del_upd{w':World}(h:TblAt w g mb β t){id:Int}(hw: ∀ k∈foot g mb β t.nodes,k≠mb→w'.heap[k]? =w.heap[k]?)(hm:zA Tryz.prog 3 w' mb (delL (.int .i64 id) (zz β t.nodes))):
  TblAt w' g mb β {t with nodes:=In.del t.nodes id} where
 row:=(hw g (zE.2 (.inl rfl)) h.apart_mb).trans h.row
 map:=by rw[zef] at hm;exact hm
 node:=fun n hn=>by
  have hn:=(zoC hn).1
  exact(h.node n hn).on (hw _ (zE.2 (.inr (.inr ⟨n,hn,.inl rfl⟩))) (fun e=>(h.apart_self hn).2.2.2.1 e.symm)) (hw _ (zE.2 (.inr (.inr ⟨n,hn,.inr rfl⟩))) (fun e=>(h.apart_self hn).2.2.2.2 e.symm))
 apart:=h.apart.sublist (XP _ _ _ _ _)
end
/-! ### steps -/
section
variable {w:World}{g mb:Nat}{β:Int→Nat×Nat}{t:TabD}
theorem TblAt.set_used(h:TblAt w g mb β t)(u:Int):TblAt (w.setCell ⟨g,1,none⟩ (.int .i64 u)) g mb β {t with used:=u}:=
 h.own_upd (fun _ _ hk=>yp _ _ hk) (by rw[yW h.row];rfl)
theorem TblAt.set_last(h:TblAt w g mb β t)(l:Int):TblAt (w.setCell ⟨g,2,none⟩ (.int .i64 l)) g mb β {t with last:=l}:=
 h.own_upd (fun _ _ hk=>yp _ _ hk) (by rw[yW h.row];rfl)
theorem TblAt.at{id:Int}{n:NodeD}(h:TblAt w g mb β t)(hn:In.find t.nodes id=some n):NodeAt w (β id).1 (β id).2 n:=by
 obtain⟨h1,rfl⟩:=zk hn
 exact h.node n h1
theorem TblAt.set_links{id:Int}{n:NodeD}(h:TblAt w g mb β t)(hn:In.find t.nodes id=some n)(v:Int):TblAt (w.setCell ⟨(β id).1,1,none⟩ (.int .i64 v)) g mb β (In.setN t {n with links:=v}):=by
 obtain rfl:=(zk hn).2
 have hN:=h.at hn
 have ne:=h.apart_two (zk hn).1
 exact h.node_upd (n:={n with links:=v}) hn (fun k _ hk _=>yp _ _ hk) ⟨by rw[yW hN.row];rfl,zA.on hN.names (yp _ _ (fun e=>ne e.symm))⟩
theorem TblAt.set_holds{id:Int}{n:NodeD}(h:TblAt w g mb β t)(hn:In.find t.nodes id=some n)(v:Int):TblAt (w.setCell ⟨(β id).1,2,none⟩ (.int .i64 v)) g mb β (In.setN t {n with holds:=v}):=by
 obtain rfl:=(zk hn).2
 have hN:=h.at hn
 have ne:=h.apart_two (zk hn).1
 exact h.node_upd (n:={n with holds:=v}) hn (fun k _ hk _=>yp _ _ hk) ⟨by rw[yW hN.row];rfl,zA.on hN.names (yp _ _ (fun e=>ne e.symm))⟩
theorem TblAt.set_data{id:Int}{n:NodeD}(h:TblAt w g mb β t)(hn:In.find t.nodes id=some n)(v:ByteArray):TblAt (w.setCell ⟨(β id).1,3,none⟩ (.string v)) g mb β (In.setN t {n with data:=v}):=by
 obtain rfl:=(zk hn).2
 have hN:=h.at hn
 have ne:=h.apart_two (zk hn).1
 exact h.node_upd (n:={n with data:=v}) hn (fun k _ hk _=>yp _ _ hk) ⟨by rw[yW hN.row];rfl,zA.on hN.names (yp _ _ (fun e=>ne e.symm))⟩
theorem TblAt.set_names{w':World}{id:Int}{n:NodeD}(h:TblAt w g mb β t)(hn:In.find t.nodes id=some n){d:List (ByteArray×Int)}(hm:yF w' (β id).2 d)(ht:w.mapTurned w' (β id).2):TblAt w' g mb β (In.setN t {n with names:=d}):=by
 obtain rfl:=(zk hn).2
 have hN:=h.at hn
 have ne:=h.apart_two (zk hn).1
 exact h.node_upd (n:={n with names:=d}) hn (fun k _ _ hk=>Zm ht hk) ⟨(Zm ht ne).trans hN.row,hm⟩
theorem zln{t:TabD}{n:NodeD}{id:Int}(hn:(In.find t.nodes n.id).isSome=true):In.find (In.setN t n).nodes id=if id=n.id then some n else In.find t.nodes id:=by
 show In.find (In.set t.nodes n) id=_
 unfold In.set In.find at*
 generalize t.nodes=l at*
 induction l with
 |nil=>cases hn
 |cons y r ih=>
  rw[laDz,lbGz,lbGz]
  rw[lbGz] at hn
  by_cases hy:y.id=n.id
  ·have e1:(y.id==n.id)=true:=by simpa using hy
   rw[if_pos e1]
   by_cases hi:id=n.id
   ·subst hi;simp
   ·rw[if_neg hi]
    have e2:(n.id==id)=false:=by rw[beq_eq_false_iff_ne];exact fun e=>hi e.symm
    have e3:(y.id==id)=false:=by rw[hy];exact e2
    rw[e2,e3]
    simp only
    rw[ldFz]
    have:((fun m:NodeD=>m.id==id)∘fun m=>if m.id==n.id then n else m)=fun m=>m.id==id:=by
     funext m
     simp only[Function.comp]
     split
     ·rename_i hm
      rw[show m.id=n.id by simpa using hm]
     ·rfl
    rw[this]
    cases hf:r.find? fun m=>m.id==id with
    |none=>rfl
    |some x=>
     have hx:=lcOz hf
     simp only[Option.map_some]
     rw[if_neg]
     intro hc
     have h1:x.id=id:=by simpa using hx
     have h2:x.id=n.id:=by simpa using hc
     exact hi (h1▸h2)
  ·have e1:(y.id==n.id)=false:=by rw[beq_eq_false_iff_ne];exact hy
   rw[e1] at hn
   simp only at hn
   rw[e1]
   simp only[Bool.false_eq_true,if_false]
   by_cases hyi:y.id=id
   ·have e2:(y.id==id)=true:=by simpa using hyi
    rw[e2]
    simp only
    rw[if_neg (fun e=>hy (hyi.trans e))]
   ·have e2:(y.id==id)=false:=by rw[beq_eq_false_iff_ne];exact hyi
    rw[e2]
    exact ih hn
end
end
section
open Go.RowKit Go.Maps
theorem yZ{w:World}{g mb:Nat}{β:Int→Nat×Nat}{t:TabD}(h:TblAt w g mb β t)(hq:0<t.quota):Calls Tryz.prog 119 #[.pointer (some ⟨g,0,none⟩)] w fun e w'=>e= .returned (.bool true)∧w=w':=by
 have c0:=ZB h.row 0
 simp only[lcUz,lbPz] at c0
 clear h
 go_enter Tryz.func119,Tryz.ntmps119
 go_wp2_with fail
 go_ret
 exact⟨rfl,rfl⟩
theorem zhh(w:World):(zeroValue 163).run Tryz.prog w= .ok (.pointer none) w:=by kernel_rfl
theorem zy(w:World):(zeroValue 3).run Tryz.prog w= .ok (.int .i64 0) w:=by kernel_rfl
def ziZ(β:Int→Nat×Nat)(t:TabD)(id:Int):Value:=match In.find t.nodes id with|some n=> .pointer (some ⟨(β n.id).1,0,none⟩)|none=> .pointer none
theorem yz{w:World}{g mb:Nat}{β:Int→Nat×Nat}{t:TabD}(h:TblAt w g mb β t){id:Int}(hid:Fits id):
  (Instr.lookup 160 (.map (some mb)) (.int .i64 id) false).run Tryz.prog w= .ok (ziZ β t id) w:=by
 rw[zA.look h.map zq Tryz.underlying160 (zhh w) (keyOf_int_mk Tryz.underlying3 hid),zbP]
 rfl
theorem ZN{β:Int→Nat×Nat}{t:TabD}{id:Int}{n:NodeD}(h:In.find t.nodes id=some n):ziZ β t id= .pointer (some ⟨(β id).1,0,none⟩):=by
 unfold ziZ;rw[h];simp only[(zk h).2]
theorem zgh{β:Int→Nat×Nat}{t:TabD}{id:Int}(h:In.find t.nodes id=none):ziZ β t id= .pointer none:=by
 unfold ziZ;rw[h]
theorem ZS{w:World}{m:Nat}{d:List (ByteArray×Int)}(h:yF w m d){s:ByteArray}(hs:s.size≤maxLen):
  (Instr.lookup 164 (.map (some m)) (.string s) false).run Tryz.prog w= .ok (.int .i64 (In.leads d s)) w:=by
 rw[zA.look h yC Tryz.underlying164 (zy w) (WideMaps.keyOf_string_mk Tryz.underlying9 hs),zbG]
theorem ZJ{w:World}{g mb:Nat}{β:Int→Nat×Nat}{t:TabD}(h:TblAt w g mb β t)(hq:0<t.quota){id:Int}(hid:Fits id){dir:Bool}{n:NodeD}(hn:In.find t.nodes id=some n)(hd:n.dir=dir):
  Calls Tryz.prog 165 #[.pointer (some ⟨g,0,none⟩),.int .i64 id,.bool dir] w fun e w'=>e= .returned (.tuple #[.pointer (some ⟨(β id).1,0,none⟩),.int .i64 0])∧w=w':=by
 have hg:=yZ h hq
 have hl:=yz h hid
 rw[ZN hn] at hl
 have c3:=ZB h.row 3
 simp only[lcUz,lbPz,lbFz] at c3
 have d0:=ZB (h.at hn).row 0
 simp only[lcUz,lbPz,hd] at d0
 clear h hn hd hq
 go_enter Tryz.func165,Tryz.ntmps165
 cases dir
 all_goals
  go_wp2_with (go_at_call 119;refine hg.mono ?_;rintro e w' ⟨rfl,rfl⟩)
  go_ret2
  exact⟨rfl,rfl⟩
theorem XJ{w:World}{g mb:Nat}{β:Int→Nat×Nat}{t:TabD}(h:TblAt w g mb β t)(hq:0<t.quota){id:Int}(hid:Fits id){dir:Bool}{E:Int}(hE:In.getE t id dir=E)(h0:E≠0):
  Calls Tryz.prog 165 #[.pointer (some ⟨g,0,none⟩),.int .i64 id,.bool dir] w fun e w'=>e= .returned (.tuple #[.pointer none,.int .i64 E])∧w=w':=by
 have hg:=yZ h hq
 have hl:=yz h hid
 have c3:=ZB h.row 3
 simp only[lcUz,lbPz,lbFz] at c3
 unfold In.getE at hE
 cases hn:In.find t.nodes id with
 |none=>
  rw[hn] at hE
  subst hE
  rw[zgh hn] at hl
  clear h hn hq h0
  go_enter Tryz.func165,Tryz.ntmps165
  go_wp2_with (go_at_call 119;refine hg.mono ?_;rintro e w' ⟨rfl,rfl⟩)
  go_ret2
  exact⟨rfl,rfl⟩
 |some n=>
  rw[hn] at hE
  rw[ZN hn] at hl
  have d0:=ZB (h.at hn).row 0
  simp only[lcUz,lbPz] at d0
  obtain⟨nd,hnd⟩: ∃ x,n.dir=x:=⟨_,rfl⟩
  rw[hnd] at d0
  simp only[hnd] at hE
  clear h hn hq hnd
  cases nd<;> cases dir
  all_goals simp at hE
  all_goals first|(exact absurd hE.symm h0)|skip
  all_goals
   subst hE
   go_enter Tryz.func165,Tryz.ntmps165
   go_wp2_with (go_at_call 119;refine hg.mono ?_;rintro e w' ⟨rfl,rfl⟩)
   go_ret2
   exact⟨rfl,rfl⟩
end
section
open Go.RowKit
structure Ext (B:Nat) (W:World):Type where
 w:World
 b:Below B W w
instance (B:Nat) (W:World):Nonempty (Ext B W):=⟨⟨W,Below.refl B W⟩⟩
theorem Xj{P:Program}{id:Nat}{Q:Exit→Act→World→Prop}{a:Act}{w:World}{l:List Oper}(B:Nat)(hm:P.follows .mixedOrders=true)(hB:Region.lexB .any l.toArray=true)
  (h:wpQuiet P l.toArray (fun w'=> ∃ x:Ext B w,w'=x.w) (fun a'=> ∀ x:Ext B w,Q .normal a' x.w) l a):(Code.region id l.toArray true).wp P Q a w:=by
 refine wp_region_quiet (C:=fun w'=> ∃ x:Ext B w,w'=x.w) hm hB ⟨⟨w.drew,(Below.refl B w).drew⟩,rfl⟩ ?_
 have e:(fun a'=> ∀ w',(∃ x:Ext B w,w'=x.w)→Q .normal a' w')=(fun a'=> ∀ x:Ext B w,Q .normal a' x.w):=by
  funext a'
  exact propext ⟨fun h x=>h _ ⟨x,rfl⟩,fun h w' ⟨x,hx⟩=>by rw[hx];exact h x⟩
 rw[e]
 exact h
theorem Ext.step{B:Nat}{W:World}(hB:B≤W.heap.size)(x:Ext B W){w':World}(h:Below x.w.heap.size x.w w'): ∃ y:Ext B W,w'=y.w:=
 ⟨⟨w',x.b.trans (h.mono (Nat.le_trans hB x.b.size))⟩,rfl⟩
end
end Go.Proofs.YtcicjklhbnipcaaGreatDoor
namespace Go.Proofs
open Go.Shelf
def Tryz.lays156_ren:Go.Shelf.Ren:=⟨fun|156=>192|165=>217|166=>218|169=>219|240=>243|241=>244|276=>258|277=>259|n=>n,fun|31=>29|9=>9|3=>3|4=>4|0=>0|20=>20|72=>256|76=>259|70=>253|37=>254|75=>258|127=>276|164=>288|5=>5|80=>261|n=>n,fun|n=>n⟩
theorem Tryz.lays156:Go.Proofs.Lays.n156 Tryz.prog Tryz.lays156_ren:={
 mixed:=by kernel_rfl
 f156:=Tryz.func192.trans (congrArg some (by kernel_rfl))
 f165:=Tryz.func217.trans (congrArg some (by kernel_rfl))
 f166:=Tryz.func218.trans (congrArg some (by kernel_rfl))
 f169:=Tryz.func219.trans (congrArg some (by kernel_rfl))
 f240:=Tryz.func243.trans (congrArg some (by kernel_rfl))
 f241:=Tryz.func244.trans (congrArg some (by kernel_rfl))
 f276:=Tryz.func258.trans (congrArg some (by kernel_rfl))
 f277:=Tryz.func259.trans (congrArg some (by kernel_rfl))
 t0:=Tryz.underlying0
 a0:=Tryz.isAgg0
 z0:=Tryz.sizeOf0
 v0:=Tryz.zeroValue0
 t3:=Tryz.underlying3
 a3:=Tryz.isAgg3
 z3:=Tryz.sizeOf3
 v3:=Tryz.zeroValue3
 t4:=Tryz.underlying4
 a4:=Tryz.isAgg4
 z4:=Tryz.sizeOf4
 v4:=Tryz.zeroValue4
 t9:=Tryz.underlying9
 a9:=Tryz.isAgg9
 z9:=Tryz.sizeOf9
 v9:=Tryz.zeroValue9
 t20:=Tryz.underlying20
 a20:=Tryz.isAgg20
 z20:=Tryz.sizeOf20
 v20:=Tryz.zeroValue20
 t31:=Tryz.underlying29
 a31:=Tryz.isAgg29
 z31:=Tryz.sizeOf29
 v31:=Tryz.zeroValue29
 t37:=Tryz.underlying254
 a37:=Tryz.isAgg254
 z37:=Tryz.sizeOf254
 v37:=Tryz.zeroValue254
 t70:=Tryz.underlying253
 a70:=Tryz.isAgg253
 z70:=Tryz.sizeOf253
 v70:=Tryz.zeroValue253
 t72:=Tryz.underlying256
 a72:=Tryz.isAgg256
 z72:=Tryz.sizeOf256
 v72:=Tryz.zeroValue256
 t75:=Tryz.underlying258
 a75:=Tryz.isAgg258
 z75:=Tryz.sizeOf258
 v75:=Tryz.zeroValue258
 t76:=Tryz.underlying259
 a76:=Tryz.isAgg259
 z76:=Tryz.sizeOf259
 v76:=Tryz.zeroValue259
 t127:=Tryz.underlying276
 a127:=Tryz.isAgg276
 z127:=Tryz.sizeOf276
 v127:=Tryz.zeroValue276
 t164:=Tryz.underlying288
 a164:=Tryz.isAgg288
 z164:=Tryz.sizeOf288
 v164:=Tryz.zeroValue288}
theorem Tryz.Builder_Extra_156:Builder.Extra Tryz.prog Tryz.lays156_ren:={
 sizeBuilder:=by kernel_rfl
 liesBuilder:=by kernel_rfl
 t5:=Tryz.underlying5
 a5:=Tryz.isAgg5
 z5:=Tryz.sizeOf5
 v5:=Tryz.zeroValue5
 infoByte:=by kernel_rfl
 cellsByte:=by kernel_rfl
 sizeByte:=by kernel_rfl
 neB5:=by decide}
open Go.RowKit in
theorem Tryz.strings_Join_none(a:Option Addr)(c:Nat)(sep:ByteArray)(w:World):
  Calls Tryz.prog 192 #[.slice a 0 c,.string sep] w fun e w'=>e= .returned (.string ⟨#[]⟩)∧w'=w:=Any.strings_Join_none Tryz.lays156 Tryz.Builder_Extra_156 a c sep w
open Go.RowKit in
theorem Tryz.strings_Join(bk o c:Nat)(xs:List ByteArray)(sep:ByteArray)(w:World)(hcells: ∀ (j:Nat) x,xs[j]? =some x→w.cell? ⟨bk,o+j,none⟩=some (.string x))(hbk:bk<w.heap.size)(hN:xs.length≤140737488355328)(hcap:xs.length≤c)(hlen:(Lib.join (xs.map (·.data.toList)) sep.data.toList).length≤140737488355328):
  Calls Tryz.prog 192 #[.slice (some ⟨bk,o,none⟩) xs.length c,.string sep] w fun e w'=>e= .returned (.string ⟨(Lib.join (xs.map (·.data.toList)) sep.data.toList).toArray⟩)∧Below w.heap.size w w':=Any.strings_Join Tryz.lays156 Tryz.Builder_Extra_156 bk o c xs sep w hcells hbk hN hcap hlen
def Tryz.lays119_ren:Go.Shelf.Ren:=⟨fun|119=>269|n=>n,fun|21=>21|4=>4|n=>n,fun|n=>n⟩
theorem Tryz.lays119:Go.Proofs.Lays.n119 Tryz.prog Tryz.lays119_ren:={
 mixed:=by kernel_rfl
 f119:=Tryz.func269.trans (congrArg some (by kernel_rfl))
 t4:=Tryz.underlying4
 a4:=Tryz.isAgg4
 z4:=Tryz.sizeOf4
 v4:=Tryz.zeroValue4
 t21:=Tryz.underlying21
 a21:=Tryz.isAgg21
 z21:=Tryz.sizeOf21
 v21:=Tryz.zeroValue21}
theorem Tryz.utf8_ValidRune(r:Int)(w:World):
  Calls Tryz.prog 269 #[.int .i32 r] w fun e w'=>e= .returned (.bool (Lib.validRune r))∧w'=w:=Any.utf8_ValidRune Tryz.lays119 r w
def Tryz.lays137_ren:Go.Shelf.Ren:=⟨fun|137=>216|217=>242|266=>257|n=>n,fun|9=>9|5=>5|3=>3|n=>n,fun|n=>n⟩
theorem Tryz.lays137:Go.Proofs.Lays.n137 Tryz.prog Tryz.lays137_ren:={
 mixed:=by kernel_rfl
 f137:=Tryz.func216.trans (congrArg some (by kernel_rfl))
 f217:=Tryz.func242.trans (congrArg some (by kernel_rfl))
 f266:=Tryz.func257.trans (congrArg some (by kernel_rfl))
 t3:=Tryz.underlying3
 a3:=Tryz.isAgg3
 z3:=Tryz.sizeOf3
 v3:=Tryz.zeroValue3
 t5:=Tryz.underlying5
 a5:=Tryz.isAgg5
 z5:=Tryz.sizeOf5
 v5:=Tryz.zeroValue5
 t9:=Tryz.underlying9
 a9:=Tryz.isAgg9
 z9:=Tryz.sizeOf9
 v9:=Tryz.zeroValue9}
open Go.RowKit in
theorem Tryz.strings_IndexByte(s:ByteArray)(c:Int)(w:World):
  Calls Tryz.prog 216 #[.string s,.int .u8 c] w fun e w'=>e= .returned (.int .i64 (Lib.indexByte s.data.toList c.toNat.toUInt8))∧w'=w:=Any.strings_IndexByte Tryz.lays137 s c w
def Tryz.lays189_ren:Go.Shelf.Ren:=⟨fun|189=>124|125=>174|257=>173|128=>209|129=>210|294=>200|295=>201|296=>202|297=>203|298=>204|299=>205|216=>206|300=>207|301=>208|328=>236|329=>237|330=>238|331=>239|332=>240|215=>241|343=>256|n=>n,fun|28=>49|3=>3|46=>220|0=>0|51=>246|53=>248|4=>4|183=>239|182=>238|131=>243|5=>5|9=>9|218=>270|222=>274|228=>285|229=>286|n=>n,fun|n=>n⟩
theorem Tryz.lays189:Go.Proofs.Lays.n189 Tryz.prog Tryz.lays189_ren:={
 mixed:=by kernel_rfl
 f125:=Tryz.func174.trans (congrArg some (by kernel_rfl))
 f128:=Tryz.func209.trans (congrArg some (by kernel_rfl))
 f129:=Tryz.func210.trans (congrArg some (by kernel_rfl))
 f189:=Tryz.func124.trans (congrArg some (by kernel_rfl))
 f215:=Tryz.func241.trans (congrArg some (by kernel_rfl))
 f216:=Tryz.func206.trans (congrArg some (by kernel_rfl))
 f257:=Tryz.func173.trans (congrArg some (by kernel_rfl))
 f294:=Tryz.func200.trans (congrArg some (by kernel_rfl))
 f295:=Tryz.func201.trans (congrArg some (by kernel_rfl))
 f296:=Tryz.func202.trans (congrArg some (by kernel_rfl))
 f297:=Tryz.func203.trans (congrArg some (by kernel_rfl))
 f298:=Tryz.func204.trans (congrArg some (by kernel_rfl))
 f299:=Tryz.func205.trans (congrArg some (by kernel_rfl))
 f300:=Tryz.func207.trans (congrArg some (by kernel_rfl))
 f301:=Tryz.func208.trans (congrArg some (by kernel_rfl))
 f328:=Tryz.func236.trans (congrArg some (by kernel_rfl))
 f329:=Tryz.func237.trans (congrArg some (by kernel_rfl))
 f330:=Tryz.func238.trans (congrArg some (by kernel_rfl))
 f331:=Tryz.func239.trans (congrArg some (by kernel_rfl))
 f332:=Tryz.func240.trans (congrArg some (by kernel_rfl))
 f343:=Tryz.func256.trans (congrArg some (by kernel_rfl))
 t0:=Tryz.underlying0
 a0:=Tryz.isAgg0
 z0:=Tryz.sizeOf0
 v0:=Tryz.zeroValue0
 t3:=Tryz.underlying3
 a3:=Tryz.isAgg3
 z3:=Tryz.sizeOf3
 v3:=Tryz.zeroValue3
 t4:=Tryz.underlying4
 a4:=Tryz.isAgg4
 z4:=Tryz.sizeOf4
 v4:=Tryz.zeroValue4
 t5:=Tryz.underlying5
 a5:=Tryz.isAgg5
 z5:=Tryz.sizeOf5
 v5:=Tryz.zeroValue5
 t9:=Tryz.underlying9
 a9:=Tryz.isAgg9
 z9:=Tryz.sizeOf9
 v9:=Tryz.zeroValue9
 t28:=Tryz.underlying49
 a28:=Tryz.isAgg49
 z28:=Tryz.sizeOf49
 v28:=Tryz.zeroValue49
 t46:=Tryz.underlying220
 a46:=Tryz.isAgg220
 z46:=Tryz.sizeOf220
 v46:=Tryz.zeroValue220
 t51:=Tryz.underlying246
 a51:=Tryz.isAgg246
 z51:=Tryz.sizeOf246
 v51:=Tryz.zeroValue246
 t53:=Tryz.underlying248
 a53:=Tryz.isAgg248
 z53:=Tryz.sizeOf248
 v53:=Tryz.zeroValue248
 t131:=Tryz.underlying243
 a131:=Tryz.isAgg243
 z131:=Tryz.sizeOf243
 v131:=Tryz.zeroValue243
 t182:=Tryz.underlying238
 a182:=Tryz.isAgg238
 z182:=Tryz.sizeOf238
 v182:=Tryz.zeroValue238
 t183:=Tryz.underlying239
 a183:=Tryz.isAgg239
 z183:=Tryz.sizeOf239
 v183:=Tryz.zeroValue239
 t218:=Tryz.underlying270
 a218:=Tryz.isAgg270
 z218:=Tryz.sizeOf270
 v218:=Tryz.zeroValue270
 t222:=Tryz.underlying274
 a222:=Tryz.isAgg274
 z222:=Tryz.sizeOf274
 v222:=Tryz.zeroValue274
 t228:=Tryz.underlying285
 a228:=Tryz.isAgg285
 z228:=Tryz.sizeOf285
 v228:=Tryz.zeroValue285
 t229:=Tryz.underlying286
 a229:=Tryz.isAgg286
 z229:=Tryz.sizeOf286
 v229:=Tryz.zeroValue286}
open Go.Sort Go.RowKit in
theorem Tryz.slices_Sort_int(blk off cap:Nat)(zs:List Int)(w:World)(hH:Holds (Value.int .i64) w blk off zs.toArray)(hblk:blk<w.heap.size)(hsz:zs.length<4611686018427387904):
  Calls Tryz.prog 124 #[.slice (some ⟨blk,off,none⟩) zs.length cap] w fun e w'=>
   e= .returned (.tuple #[])∧ ∃ n os,w'=grow (putRow (Value.int .i64) (Sort.ahead w n) blk off (zs.mergeSort fun x y=>decide (x≤y)).toArray) os:=Any.slices_Sort_int Tryz.lays189 blk off cap zs w hH hblk hsz
def Tryz.lays190_ren:Go.Shelf.Ren:=⟨fun|190=>170|125=>174|258=>199|128=>209|129=>210|302=>227|303=>228|304=>229|305=>230|306=>231|307=>232|308=>233|309=>234|310=>235|333=>252|329=>237|330=>238|334=>253|335=>254|336=>255|344=>268|n=>n,fun|31=>29|9=>9|3=>3|46=>220|0=>0|51=>246|53=>248|4=>4|183=>239|182=>238|131=>243|5=>5|218=>270|222=>274|228=>285|229=>286|n=>n,fun|n=>n⟩
theorem Tryz.lays190:Go.Proofs.Lays.n190 Tryz.prog Tryz.lays190_ren:={
 mixed:=by kernel_rfl
 f125:=Tryz.func174.trans (congrArg some (by kernel_rfl))
 f128:=Tryz.func209.trans (congrArg some (by kernel_rfl))
 f129:=Tryz.func210.trans (congrArg some (by kernel_rfl))
 f190:=Tryz.func170.trans (congrArg some (by kernel_rfl))
 f258:=Tryz.func199.trans (congrArg some (by kernel_rfl))
 f302:=Tryz.func227.trans (congrArg some (by kernel_rfl))
 f303:=Tryz.func228.trans (congrArg some (by kernel_rfl))
 f304:=Tryz.func229.trans (congrArg some (by kernel_rfl))
 f305:=Tryz.func230.trans (congrArg some (by kernel_rfl))
 f306:=Tryz.func231.trans (congrArg some (by kernel_rfl))
 f307:=Tryz.func232.trans (congrArg some (by kernel_rfl))
 f308:=Tryz.func233.trans (congrArg some (by kernel_rfl))
 f309:=Tryz.func234.trans (congrArg some (by kernel_rfl))
 f310:=Tryz.func235.trans (congrArg some (by kernel_rfl))
 f329:=Tryz.func237.trans (congrArg some (by kernel_rfl))
 f330:=Tryz.func238.trans (congrArg some (by kernel_rfl))
 f333:=Tryz.func252.trans (congrArg some (by kernel_rfl))
 f334:=Tryz.func253.trans (congrArg some (by kernel_rfl))
 f335:=Tryz.func254.trans (congrArg some (by kernel_rfl))
 f336:=Tryz.func255.trans (congrArg some (by kernel_rfl))
 f344:=Tryz.func268.trans (congrArg some (by kernel_rfl))
 t0:=Tryz.underlying0
 a0:=Tryz.isAgg0
 z0:=Tryz.sizeOf0
 v0:=Tryz.zeroValue0
 t3:=Tryz.underlying3
 a3:=Tryz.isAgg3
 z3:=Tryz.sizeOf3
 v3:=Tryz.zeroValue3
 t4:=Tryz.underlying4
 a4:=Tryz.isAgg4
 z4:=Tryz.sizeOf4
 v4:=Tryz.zeroValue4
 t5:=Tryz.underlying5
 a5:=Tryz.isAgg5
 z5:=Tryz.sizeOf5
 v5:=Tryz.zeroValue5
 t9:=Tryz.underlying9
 a9:=Tryz.isAgg9
 z9:=Tryz.sizeOf9
 v9:=Tryz.zeroValue9
 t31:=Tryz.underlying29
 a31:=Tryz.isAgg29
 z31:=Tryz.sizeOf29
 v31:=Tryz.zeroValue29
 t46:=Tryz.underlying220
 a46:=Tryz.isAgg220
 z46:=Tryz.sizeOf220
 v46:=Tryz.zeroValue220
 t51:=Tryz.underlying246
 a51:=Tryz.isAgg246
 z51:=Tryz.sizeOf246
 v51:=Tryz.zeroValue246
 t53:=Tryz.underlying248
 a53:=Tryz.isAgg248
 z53:=Tryz.sizeOf248
 v53:=Tryz.zeroValue248
 t131:=Tryz.underlying243
 a131:=Tryz.isAgg243
 z131:=Tryz.sizeOf243
 v131:=Tryz.zeroValue243
 t182:=Tryz.underlying238
 a182:=Tryz.isAgg238
 z182:=Tryz.sizeOf238
 v182:=Tryz.zeroValue238
 t183:=Tryz.underlying239
 a183:=Tryz.isAgg239
 z183:=Tryz.sizeOf239
 v183:=Tryz.zeroValue239
 t218:=Tryz.underlying270
 a218:=Tryz.isAgg270
 z218:=Tryz.sizeOf270
 v218:=Tryz.zeroValue270
 t222:=Tryz.underlying274
 a222:=Tryz.isAgg274
 z222:=Tryz.sizeOf274
 v222:=Tryz.zeroValue274
 t228:=Tryz.underlying285
 a228:=Tryz.isAgg285
 z228:=Tryz.sizeOf285
 v228:=Tryz.zeroValue285
 t229:=Tryz.underlying286
 a229:=Tryz.isAgg286
 z229:=Tryz.sizeOf286
 v229:=Tryz.zeroValue286}
open Go.Sort Go.RowKit in
theorem Tryz.slices_Sort_string(blk off cap:Nat)(ss:List (List UInt8))(w:World)(hH:Holds encStr w blk off ss.toArray)(hblk:blk<w.heap.size)(hsz:ss.length<4611686018427387904):
  Calls Tryz.prog 170 #[.slice (some ⟨blk,off,none⟩) ss.length cap] w fun e w'=>
   e= .returned (.tuple #[])∧ ∃ n os,w'=grow (putRow encStr (Sort.ahead w n) blk off (ss.mergeSort fun x y=>decide (x≤y)).toArray) os:=Any.slices_Sort_string Tryz.lays190 blk off cap ss w hH hblk hsz
def Tryz.lays148_ren:Go.Shelf.Ren:=⟨fun|148=>194|222=>221|223=>222|269=>245|n=>n,fun|9=>9|3=>3|4=>4|5=>5|146=>277|51=>246|46=>220|n=>n,fun|n=>n⟩
theorem Tryz.lays148:Go.Proofs.Lays.n148 Tryz.prog Tryz.lays148_ren:={
 mixed:=by kernel_rfl
 f148:=Tryz.func194.trans (congrArg some (by kernel_rfl))
 f222:=Tryz.func221.trans (congrArg some (by kernel_rfl))
 f223:=Tryz.func222.trans (congrArg some (by kernel_rfl))
 f269:=Tryz.func245.trans (congrArg some (by kernel_rfl))
 t3:=Tryz.underlying3
 a3:=Tryz.isAgg3
 z3:=Tryz.sizeOf3
 v3:=Tryz.zeroValue3
 t4:=Tryz.underlying4
 a4:=Tryz.isAgg4
 z4:=Tryz.sizeOf4
 v4:=Tryz.zeroValue4
 t5:=Tryz.underlying5
 a5:=Tryz.isAgg5
 z5:=Tryz.sizeOf5
 v5:=Tryz.zeroValue5
 t9:=Tryz.underlying9
 a9:=Tryz.isAgg9
 z9:=Tryz.sizeOf9
 v9:=Tryz.zeroValue9
 t46:=Tryz.underlying220
 a46:=Tryz.isAgg220
 z46:=Tryz.sizeOf220
 v46:=Tryz.zeroValue220
 t51:=Tryz.underlying246
 a51:=Tryz.isAgg246
 z51:=Tryz.sizeOf246
 v51:=Tryz.zeroValue246
 t146:=Tryz.underlying277
 a146:=Tryz.isAgg277
 z146:=Tryz.sizeOf277
 v146:=Tryz.zeroValue277}
open Go.RowKit Go.Lib in
theorem Tryz.strings_LastIndex(s sub:ByteArray)(hs:s.size<4611686018427387904)(w:World):
  Calls Tryz.prog 194 #[.string s,.string sub] w fun e w'=>e= .returned (.int .i64 (Lib.lastIndex s.data.toList sub.data.toList))∧w'=w:=Any.strings_LastIndex Tryz.lays148 s sub hs w
def Tryz.lays99_ren:Go.Shelf.Ren:=⟨fun|99=>193|206=>220|n=>n,fun|9=>9|4=>4|3=>3|n=>n,fun|n=>n⟩
theorem Tryz.lays99:Go.Proofs.Lays.n99 Tryz.prog Tryz.lays99_ren:={
 mixed:=by kernel_rfl
 f99:=Tryz.func193.trans (congrArg some (by kernel_rfl))
 f206:=Tryz.func220.trans (congrArg some (by kernel_rfl))
 t3:=Tryz.underlying3
 a3:=Tryz.isAgg3
 z3:=Tryz.sizeOf3
 v3:=Tryz.zeroValue3
 t4:=Tryz.underlying4
 a4:=Tryz.isAgg4
 z4:=Tryz.sizeOf4
 v4:=Tryz.zeroValue4
 t9:=Tryz.underlying9
 a9:=Tryz.isAgg9
 z9:=Tryz.sizeOf9
 v9:=Tryz.zeroValue9}
open Go.RowKit Go.Lib in
theorem Tryz.strings_HasPrefix(s p:ByteArray)(w:World):
  Calls Tryz.prog 193 #[.string s,.string p] w fun e w'=>e= .returned (.bool (Lib.hasPrefix s.data.toList p.data.toList))∧w'=w:=Any.strings_HasPrefix Tryz.lays99 s p w
def Tryz.lays146_ren:Go.Shelf.Ren:=⟨fun|146=>197|221=>226|268=>249|138=>250|143=>251|195=>264|197=>265|218=>266|219=>267|260=>272|217=>242|225=>271|224=>270|267=>273|266=>257|314=>274|n=>n,fun|9=>9|31=>29|3=>3|4=>4|0=>0|105=>298|21=>21|5=>5|46=>220|119=>303|139=>306|138=>305|146=>277|51=>246|n=>n,fun|1=>0|3=>1|4=>2|n=>n⟩
theorem Tryz.lays146:Go.Proofs.Lays.n146 Tryz.prog Tryz.lays146_ren:={
 mixed:=by kernel_rfl
 f138:=Tryz.func250.trans (congrArg some (by kernel_rfl))
 f143:=Tryz.func251.trans (congrArg some (by kernel_rfl))
 f146:=Tryz.func197.trans (congrArg some (by kernel_rfl))
 f195:=Tryz.func264.trans (congrArg some (by kernel_rfl))
 f197:=Tryz.func265.trans (congrArg some (by kernel_rfl))
 f217:=Tryz.func242.trans (congrArg some (by kernel_rfl))
 f218:=Tryz.func266.trans (congrArg some (by kernel_rfl))
 f219:=Tryz.func267.trans (congrArg some (by kernel_rfl))
 f221:=Tryz.func226.trans (congrArg some (by kernel_rfl))
 f224:=Tryz.func270.trans (congrArg some (by kernel_rfl))
 f225:=Tryz.func271.trans (congrArg some (by kernel_rfl))
 f260:=Tryz.func272.trans (congrArg some (by kernel_rfl))
 f266:=Tryz.func257.trans (congrArg some (by kernel_rfl))
 f267:=Tryz.func273.trans (congrArg some (by kernel_rfl))
 f268:=Tryz.func249.trans (congrArg some (by kernel_rfl))
 f314:=Tryz.func274.trans (congrArg some (by kernel_rfl))
 t0:=Tryz.underlying0
 a0:=Tryz.isAgg0
 z0:=Tryz.sizeOf0
 v0:=Tryz.zeroValue0
 t3:=Tryz.underlying3
 a3:=Tryz.isAgg3
 z3:=Tryz.sizeOf3
 v3:=Tryz.zeroValue3
 t4:=Tryz.underlying4
 a4:=Tryz.isAgg4
 z4:=Tryz.sizeOf4
 v4:=Tryz.zeroValue4
 t5:=Tryz.underlying5
 a5:=Tryz.isAgg5
 z5:=Tryz.sizeOf5
 v5:=Tryz.zeroValue5
 t9:=Tryz.underlying9
 a9:=Tryz.isAgg9
 z9:=Tryz.sizeOf9
 v9:=Tryz.zeroValue9
 t21:=Tryz.underlying21
 a21:=Tryz.isAgg21
 z21:=Tryz.sizeOf21
 v21:=Tryz.zeroValue21
 t31:=Tryz.underlying29
 a31:=Tryz.isAgg29
 z31:=Tryz.sizeOf29
 v31:=Tryz.zeroValue29
 t46:=Tryz.underlying220
 a46:=Tryz.isAgg220
 z46:=Tryz.sizeOf220
 v46:=Tryz.zeroValue220
 t51:=Tryz.underlying246
 a51:=Tryz.isAgg246
 z51:=Tryz.sizeOf246
 v51:=Tryz.zeroValue246
 t105:=Tryz.underlying298
 a105:=Tryz.isAgg298
 z105:=Tryz.sizeOf298
 v105:=Tryz.zeroValue298
 t119:=Tryz.underlying303
 a119:=Tryz.isAgg303
 z119:=Tryz.sizeOf303
 t138:=Tryz.underlying305
 a138:=Tryz.isAgg305
 z138:=Tryz.sizeOf305
 v138:=Tryz.zeroValue305
 t139:=Tryz.underlying306
 a139:=Tryz.isAgg306
 z139:=Tryz.sizeOf306
 v139:=Tryz.zeroValue306
 t146:=Tryz.underlying277
 a146:=Tryz.isAgg277
 z146:=Tryz.sizeOf277
 v146:=Tryz.zeroValue277
 g1:=by kernel_rfl
 g3:=by kernel_rfl
 g4:=by kernel_rfl}
open Go.RowKit Go.Lib in
theorem Tryz.strings_Split(s sep:ByteArray)(m:Int)(w:World)(hs:s.size<4294967281)(hm:w.cell? ⟨0,0,none⟩=some (.int .i64 m))(h1:1≤sep.size):
  Calls Tryz.prog 197 #[.string s,.string sep] w fun e w'=>
   e= .returned (.slice (some ⟨w.heap.size,0,none⟩) (Lib.countB s sep+1) (Lib.countB s sep+1))∧w'=w.alloc (.cells ((Lib.splitB sep 0 (Lib.countB s sep) s).map Value.string).toArray 9):=Any.strings_Split Tryz.lays146 (by kernel_rfl) s sep m w hs hm h1
def Tryz.lays152_ren:Go.Shelf.Ren:=⟨fun|152=>260|137=>216|119=>269|224=>270|225=>271|217=>242|266=>257|n=>n,fun|9=>9|21=>21|3=>3|4=>4|5=>5|0=>0|46=>220|n=>n,fun|n=>n⟩
theorem Tryz.lays152:Go.Proofs.Lays.n152 Tryz.prog Tryz.lays152_ren:={
 mixed:=by kernel_rfl
 f119:=Tryz.func269.trans (congrArg some (by kernel_rfl))
 f137:=Tryz.func216.trans (congrArg some (by kernel_rfl))
 f152:=Tryz.func260.trans (congrArg some (by kernel_rfl))
 f217:=Tryz.func242.trans (congrArg some (by kernel_rfl))
 f224:=Tryz.func270.trans (congrArg some (by kernel_rfl))
 f225:=Tryz.func271.trans (congrArg some (by kernel_rfl))
 f266:=Tryz.func257.trans (congrArg some (by kernel_rfl))
 t0:=Tryz.underlying0
 a0:=Tryz.isAgg0
 z0:=Tryz.sizeOf0
 v0:=Tryz.zeroValue0
 t3:=Tryz.underlying3
 a3:=Tryz.isAgg3
 z3:=Tryz.sizeOf3
 v3:=Tryz.zeroValue3
 t4:=Tryz.underlying4
 a4:=Tryz.isAgg4
 z4:=Tryz.sizeOf4
 v4:=Tryz.zeroValue4
 t5:=Tryz.underlying5
 a5:=Tryz.isAgg5
 z5:=Tryz.sizeOf5
 v5:=Tryz.zeroValue5
 t9:=Tryz.underlying9
 a9:=Tryz.isAgg9
 z9:=Tryz.sizeOf9
 v9:=Tryz.zeroValue9
 t21:=Tryz.underlying21
 a21:=Tryz.isAgg21
 z21:=Tryz.sizeOf21
 v21:=Tryz.zeroValue21
 t46:=Tryz.underlying220
 a46:=Tryz.isAgg220
 z46:=Tryz.sizeOf220
 v46:=Tryz.zeroValue220}
open Go.RowKit Go.Lib in
theorem Tryz.strings_IndexRune_ascii(s:ByteArray)(r:Int)(w:World)(h0:0≤r)(h1:r<128):
  Calls Tryz.prog 260 #[.string s,.int .i32 r] w fun e w'=>e= .returned (.int .i64 (Lib.indexByte s.data.toList r.toNat.toUInt8))∧w'=w:=Any.strings_IndexRune_ascii Tryz.lays152 s r w h0 h1
def Tryz.lays226_ren:Go.Shelf.Ren:=⟨fun|226=>261|n=>n,fun|3=>3|4=>4|n=>n,fun|n=>n⟩
theorem Tryz.lays226:Go.Proofs.Lays.n226 Tryz.prog Tryz.lays226_ren:={
 mixed:=by kernel_rfl
 f226:=Tryz.func261.trans (congrArg some (by kernel_rfl))
 t3:=Tryz.underlying3
 a3:=Tryz.isAgg3
 z3:=Tryz.sizeOf3
 v3:=Tryz.zeroValue3
 t4:=Tryz.underlying4
 a4:=Tryz.isAgg4
 z4:=Tryz.sizeOf4
 v4:=Tryz.zeroValue4}
open Go.RowKit Go.Lib in
theorem Tryz.strings_shouldUseASCIISet(n:Int)(w:World):
  Calls Tryz.prog 261 #[.int .i64 n] w fun e w'=>e= .returned (.bool (decide (8<n)))∧w'=w:=Any.strings_shouldUseASCIISet Tryz.lays226 n w
def Tryz.lays153_ren:Go.Shelf.Ren:=⟨fun|153=>246|152=>260|226=>261|227=>262|228=>263|137=>216|119=>269|224=>270|225=>271|217=>242|266=>257|n=>n,fun|9=>9|3=>3|4=>4|5=>5|21=>21|117=>294|116=>293|0=>0|46=>220|124=>302|n=>n,fun|n=>n⟩
theorem Tryz.lays153:Go.Proofs.Lays.n153 Tryz.prog Tryz.lays153_ren:={
 mixed:=by kernel_rfl
 f119:=Tryz.func269.trans (congrArg some (by kernel_rfl))
 f137:=Tryz.func216.trans (congrArg some (by kernel_rfl))
 f152:=Tryz.func260.trans (congrArg some (by kernel_rfl))
 f153:=Tryz.func246.trans (congrArg some (by kernel_rfl))
 f217:=Tryz.func242.trans (congrArg some (by kernel_rfl))
 f224:=Tryz.func270.trans (congrArg some (by kernel_rfl))
 f225:=Tryz.func271.trans (congrArg some (by kernel_rfl))
 f226:=Tryz.func261.trans (congrArg some (by kernel_rfl))
 f227:=Tryz.func262.trans (congrArg some (by kernel_rfl))
 f228:=Tryz.func263.trans (congrArg some (by kernel_rfl))
 f266:=Tryz.func257.trans (congrArg some (by kernel_rfl))
 t0:=Tryz.underlying0
 a0:=Tryz.isAgg0
 z0:=Tryz.sizeOf0
 v0:=Tryz.zeroValue0
 t3:=Tryz.underlying3
 a3:=Tryz.isAgg3
 z3:=Tryz.sizeOf3
 v3:=Tryz.zeroValue3
 t4:=Tryz.underlying4
 a4:=Tryz.isAgg4
 z4:=Tryz.sizeOf4
 v4:=Tryz.zeroValue4
 t5:=Tryz.underlying5
 a5:=Tryz.isAgg5
 z5:=Tryz.sizeOf5
 v5:=Tryz.zeroValue5
 t9:=Tryz.underlying9
 a9:=Tryz.isAgg9
 z9:=Tryz.sizeOf9
 v9:=Tryz.zeroValue9
 t21:=Tryz.underlying21
 a21:=Tryz.isAgg21
 z21:=Tryz.sizeOf21
 v21:=Tryz.zeroValue21
 t46:=Tryz.underlying220
 a46:=Tryz.isAgg220
 z46:=Tryz.sizeOf220
 v46:=Tryz.zeroValue220
 t116:=Tryz.underlying293
 a116:=Tryz.isAgg293
 z116:=Tryz.sizeOf293
 t117:=Tryz.underlying294
 a117:=Tryz.isAgg294
 z117:=Tryz.sizeOf294
 v117:=Tryz.zeroValue294
 t124:=Tryz.underlying302
 a124:=Tryz.isAgg302
 z124:=Tryz.sizeOf302
 v124:=Tryz.zeroValue302}
open Go.RowKit Go.Lib in
theorem Tryz.strings_IndexAny_long(hv116: ∀ w,(zeroValue 293).run Tryz.prog w= .ok (.agg (Array.replicate 256 (.bool false))) w)(s chars:ByteArray)(w:World)(h2:2≤chars.size)(h8:8<s.size)(hs:s.size<4294967281)(hcs:chars.size<4294967281)(hascii: ∀ (j:Nat) b,chars.data.toList[j]? =some b→b.toNat<128):
  Calls Tryz.prog 246 #[.string s,.string chars] w fun e w'=>e= .returned (.int .i64 (Lib.indexAny s.data.toList chars.data.toList))∧w'=((w.alloc (.cells (Lib.setCells chars.data.toList) 293)).alloc (.cells (Lib.setCells chars.data.toList) 293)):=Any.strings_IndexAny_long Tryz.lays153 hv116 (by kernel_rfl) s chars w h2 h8 hs hcs hascii
def Tryz.lays105_ren:Go.Shelf.Ren:=⟨fun|105=>196|212=>224|99=>193|165=>217|166=>218|170=>225|169=>219|263=>247|264=>248|206=>220|240=>243|241=>244|276=>258|277=>259|n=>n,fun|9=>9|3=>3|4=>4|20=>20|0=>0|46=>220|109=>262|5=>5|72=>256|76=>259|51=>246|146=>277|53=>248|148=>280|70=>253|37=>254|75=>258|127=>276|164=>288|80=>261|n=>n,fun|n=>n⟩
theorem Tryz.lays105:Go.Proofs.Lays.n105 Tryz.prog Tryz.lays105_ren:={
 mixed:=by kernel_rfl
 f99:=Tryz.func193.trans (congrArg some (by kernel_rfl))
 f105:=Tryz.func196.trans (congrArg some (by kernel_rfl))
 f165:=Tryz.func217.trans (congrArg some (by kernel_rfl))
 f166:=Tryz.func218.trans (congrArg some (by kernel_rfl))
 f169:=Tryz.func219.trans (congrArg some (by kernel_rfl))
 f170:=Tryz.func225.trans (congrArg some (by kernel_rfl))
 f206:=Tryz.func220.trans (congrArg some (by kernel_rfl))
 f212:=Tryz.func224.trans (congrArg some (by kernel_rfl))
 f240:=Tryz.func243.trans (congrArg some (by kernel_rfl))
 f241:=Tryz.func244.trans (congrArg some (by kernel_rfl))
 f263:=Tryz.func247.trans (congrArg some (by kernel_rfl))
 f264:=Tryz.func248.trans (congrArg some (by kernel_rfl))
 f276:=Tryz.func258.trans (congrArg some (by kernel_rfl))
 f277:=Tryz.func259.trans (congrArg some (by kernel_rfl))
 t0:=Tryz.underlying0
 a0:=Tryz.isAgg0
 z0:=Tryz.sizeOf0
 v0:=Tryz.zeroValue0
 t3:=Tryz.underlying3
 a3:=Tryz.isAgg3
 z3:=Tryz.sizeOf3
 v3:=Tryz.zeroValue3
 t4:=Tryz.underlying4
 a4:=Tryz.isAgg4
 z4:=Tryz.sizeOf4
 v4:=Tryz.zeroValue4
 t5:=Tryz.underlying5
 a5:=Tryz.isAgg5
 z5:=Tryz.sizeOf5
 v5:=Tryz.zeroValue5
 t9:=Tryz.underlying9
 a9:=Tryz.isAgg9
 z9:=Tryz.sizeOf9
 v9:=Tryz.zeroValue9
 t20:=Tryz.underlying20
 a20:=Tryz.isAgg20
 z20:=Tryz.sizeOf20
 v20:=Tryz.zeroValue20
 t37:=Tryz.underlying254
 a37:=Tryz.isAgg254
 z37:=Tryz.sizeOf254
 v37:=Tryz.zeroValue254
 t46:=Tryz.underlying220
 a46:=Tryz.isAgg220
 z46:=Tryz.sizeOf220
 v46:=Tryz.zeroValue220
 t51:=Tryz.underlying246
 a51:=Tryz.isAgg246
 z51:=Tryz.sizeOf246
 v51:=Tryz.zeroValue246
 t53:=Tryz.underlying248
 a53:=Tryz.isAgg248
 z53:=Tryz.sizeOf248
 v53:=Tryz.zeroValue248
 t70:=Tryz.underlying253
 a70:=Tryz.isAgg253
 z70:=Tryz.sizeOf253
 v70:=Tryz.zeroValue253
 t72:=Tryz.underlying256
 a72:=Tryz.isAgg256
 z72:=Tryz.sizeOf256
 v72:=Tryz.zeroValue256
 t75:=Tryz.underlying258
 a75:=Tryz.isAgg258
 z75:=Tryz.sizeOf258
 v75:=Tryz.zeroValue258
 t76:=Tryz.underlying259
 a76:=Tryz.isAgg259
 z76:=Tryz.sizeOf259
 v76:=Tryz.zeroValue259
 t109:=Tryz.underlying262
 a109:=Tryz.isAgg262
 z109:=Tryz.sizeOf262
 v109:=Tryz.zeroValue262
 t127:=Tryz.underlying276
 a127:=Tryz.isAgg276
 z127:=Tryz.sizeOf276
 v127:=Tryz.zeroValue276
 t146:=Tryz.underlying277
 a146:=Tryz.isAgg277
 z146:=Tryz.sizeOf277
 v146:=Tryz.zeroValue277
 t148:=Tryz.underlying280
 a148:=Tryz.isAgg280
 z148:=Tryz.sizeOf280
 v148:=Tryz.zeroValue280
 t164:=Tryz.underlying288
 a164:=Tryz.isAgg288
 z164:=Tryz.sizeOf288
 v164:=Tryz.zeroValue288}
theorem Tryz.Builder_Extra_105:Builder.Extra Tryz.prog Tryz.lays105_ren:={
 sizeBuilder:=by kernel_rfl
 liesBuilder:=by kernel_rfl
 t5:=Tryz.underlying5
 a5:=Tryz.isAgg5
 z5:=Tryz.sizeOf5
 v5:=Tryz.zeroValue5
 infoByte:=by kernel_rfl
 cellsByte:=by kernel_rfl
 sizeByte:=by kernel_rfl
 neB5:=by decide}
open Go.RowKit Go.Lib in
theorem Tryz.strings_Repeat(s:ByteArray)(c:Nat)(w:World)(hc:c≤9223372036854775807)(hlen:s.size*c≤140737488355328):
  Calls Tryz.prog 196 #[.string s,.int .i64 c] w fun e w'=>e= .returned (.string ⟨(Lib.repeatL s.data.toList c).toArray⟩)∧Below w.heap.size w w':=Any.strings_Repeat Tryz.lays105 Tryz.Builder_Extra_105 s c w hc hlen
def Tryz.lays108_ren:Go.Shelf.Ren:=⟨fun|108=>131|n=>n,fun|28=>49|3=>3|0=>0|4=>4|n=>n,fun|n=>n⟩
theorem Tryz.lays108:Go.Proofs.Lays.n108 Tryz.prog Tryz.lays108_ren:={
 mixed:=by kernel_rfl
 f108:=Tryz.func131.trans (congrArg some (by kernel_rfl))
 t0:=Tryz.underlying0
 a0:=Tryz.isAgg0
 z0:=Tryz.sizeOf0
 v0:=Tryz.zeroValue0
 t3:=Tryz.underlying3
 a3:=Tryz.isAgg3
 z3:=Tryz.sizeOf3
 v3:=Tryz.zeroValue3
 t4:=Tryz.underlying4
 a4:=Tryz.isAgg4
 z4:=Tryz.sizeOf4
 v4:=Tryz.zeroValue4
 t28:=Tryz.underlying49
 a28:=Tryz.isAgg49
 z28:=Tryz.sizeOf49
 v28:=Tryz.zeroValue49}
open Go.Lib in
theorem Tryz.slices_Index_int(b off n c:Nat)(zs:List Int)(x:Int)(w:World)(hz:n≤zs.length)(hbig:n≤9223372036854775807)(hc: ∀ j,j<zs.length→w.cell? ⟨b,off+j,none⟩=some (.int .i64 (zs.getD j 0))):
  Calls Tryz.prog 131 #[.slice (some ⟨b,off,none⟩) n c,.int .i64 x] w fun e w'=>e= .returned (.int .i64 (Lib.idxOf (zs.take n) x))∧w'=w:=Any.slices_Index_int Tryz.lays108 b off n c zs x w hz hbig hc
def Tryz.lays107_ren:Go.Shelf.Ren:=⟨fun|107=>81|108=>131|n=>n,fun|28=>49|3=>3|4=>4|0=>0|n=>n,fun|n=>n⟩
theorem Tryz.lays107:Go.Proofs.Lays.n107 Tryz.prog Tryz.lays107_ren:={
 mixed:=by kernel_rfl
 f107:=Tryz.func81.trans (congrArg some (by kernel_rfl))
 f108:=Tryz.func131.trans (congrArg some (by kernel_rfl))
 t0:=Tryz.underlying0
 a0:=Tryz.isAgg0
 z0:=Tryz.sizeOf0
 v0:=Tryz.zeroValue0
 t3:=Tryz.underlying3
 a3:=Tryz.isAgg3
 z3:=Tryz.sizeOf3
 v3:=Tryz.zeroValue3
 t4:=Tryz.underlying4
 a4:=Tryz.isAgg4
 z4:=Tryz.sizeOf4
 v4:=Tryz.zeroValue4
 t28:=Tryz.underlying49
 a28:=Tryz.isAgg49
 z28:=Tryz.sizeOf49
 v28:=Tryz.zeroValue49}
open Go.Lib in
theorem Tryz.slices_Contains_int(b off n c:Nat)(zs:List Int)(x:Int)(w:World)(hz:n≤zs.length)(hbig:n≤9223372036854775807)(hc: ∀ j,j<zs.length→w.cell? ⟨b,off+j,none⟩=some (.int .i64 (zs.getD j 0))):
  Calls Tryz.prog 81 #[.slice (some ⟨b,off,none⟩) n c,.int .i64 x] w fun e w'=>e= .returned (.bool ((zs.take n).contains x))∧w'=w:=Any.slices_Contains_int Tryz.lays107 b off n c zs x w hz hbig hc
open Go.Lib in
theorem Tryz.slices_Contains_int_empty(a:Option Addr)(c:Nat)(x:Int)(w:World):
  Calls Tryz.prog 81 #[.slice a 0 c,.int .i64 x] w fun e w'=>e= .returned (.bool false)∧w'=w:=Any.slices_Contains_int_empty Tryz.lays107 a c x w
def Tryz.lays193_ren:Go.Shelf.Ren:=⟨fun|193=>175|n=>n,fun|31=>29|9=>9|4=>4|3=>3|0=>0|n=>n,fun|n=>n⟩
theorem Tryz.lays193:Go.Proofs.Lays.n193 Tryz.prog Tryz.lays193_ren:={
 mixed:=by kernel_rfl
 f193:=Tryz.func175.trans (congrArg some (by kernel_rfl))
 t0:=Tryz.underlying0
 a0:=Tryz.isAgg0
 z0:=Tryz.sizeOf0
 v0:=Tryz.zeroValue0
 t3:=Tryz.underlying3
 a3:=Tryz.isAgg3
 z3:=Tryz.sizeOf3
 v3:=Tryz.zeroValue3
 t4:=Tryz.underlying4
 a4:=Tryz.isAgg4
 z4:=Tryz.sizeOf4
 v4:=Tryz.zeroValue4
 t9:=Tryz.underlying9
 a9:=Tryz.isAgg9
 z9:=Tryz.sizeOf9
 v9:=Tryz.zeroValue9
 t31:=Tryz.underlying29
 a31:=Tryz.isAgg29
 z31:=Tryz.sizeOf29
 v31:=Tryz.zeroValue29}
open Go.RowKit Go.Lib in
theorem Tryz.slices_Equal_string(b1 o1 n c b2 o2 m d:Nat)(xs ys:List ByteArray)(w:World)(hx:n≤xs.length)(hy:m≤ys.length)(hbig:n≤9223372036854775807)(hbig2:m≤9223372036854775807)(hc1: ∀ j,j<xs.length→w.cell? ⟨b1,o1+j,none⟩=some (.string (xs.getD j ByteArray.empty)))(hc2: ∀ j,j<ys.length→w.cell? ⟨b2,o2+j,none⟩=some (.string (ys.getD j ByteArray.empty))):
  Calls Tryz.prog 175 #[.slice (some ⟨b1,o1,none⟩) n c,.slice (some ⟨b2,o2,none⟩) m d] w fun e w'=>e= .returned (.bool (decide (xs.take n=ys.take m)))∧ ∃ q,w'=w.drewN q:=Any.slices_Equal_string Tryz.lays193 b1 o1 n c b2 o2 m d xs ys w hx hy hbig hbig2 hc1 hc2
open Go.RowKit Go.Lib in
theorem Tryz.slices_Equal_string_empty(a1 a2:Option Addr)(c m d:Nat)(w:World)(hbig2:m≤9223372036854775807):
  Calls Tryz.prog 175 #[.slice a1 0 c,.slice a2 m d] w fun e w'=>e= .returned (.bool (decide (m=0)))∧w'=w:=Any.slices_Equal_string_empty Tryz.lays193 a1 a2 c m d w hbig2
open Go.RowKit Go.Sort in
theorem Tryz.slices_Sort_string_none(p:Option Addr)(cap:Nat)(w:World):
  Calls Tryz.prog 170 #[.slice p 0 cap] w fun e w'=>e= .returned (.tuple #[])∧w'=w:=Any.slices_Sort_string_none Tryz.lays190 p cap w
open Go.RowKit Go.Sort in
theorem Tryz.slices_Sort_int_none(p:Option Addr)(cap:Nat)(w:World):
  Calls Tryz.prog 124 #[.slice p 0 cap] w fun e w'=>e= .returned (.tuple #[])∧w'=w:=Any.slices_Sort_int_none Tryz.lays189 p cap w
end Go.Proofs
namespace Go.Proofs.YtcicjklhbnipcaaGreatDoor
section
open Go.RowKit Go.Maps Go.Lib
abbrev zs:ByteArray:=⟨#[0,47]⟩
theorem zcE(w:World):Calls Tryz.prog 260 #[.string zs,.int .i32 65533] w fun e w'=>e= .returned (.int .i64 (-1))∧Below w.heap.size w w':=by
 have h0:=fun ty=>run_next_ascii (P:=Tryz.prog) w zs 0 ty (by decide) (by decide)
 have h1:=fun ty=>run_next_ascii (P:=Tryz.prog) w zs 1 ty (by decide) (by decide)
 have h2:=fun ty=>run_next_end (P:=Tryz.prog) w zs 2 ty (by decide)
 go_enter Tryz.func260,Tryz.ntmps260
 go_wp2_with fail
 go_loopg [5,6] 2 (fun g _ _ wx=> ∃ i:Nat,i+g=2∧wx=w.iter zs i)
 case atStart=>exact⟨0,by omega,rfl⟩
 case round=>
  obtain⟨i,hig,rfl⟩:=hrel
  cases gk with
  |zero=>
   obtain rfl:i=2:=by omega
   go_wp2_with fail
   go_ret
   exact⟨rfl,(Below.refl _ _).alloc (Nat.le_refl _) _⟩
  |succ g=>
   have hi:i=0∨i=1:=by omega
   rcases hi with rfl|rfl
   ·go_wp2_with fail
    go_roundg g
    case measure=>omega
    case rel=>exact⟨1,by omega,rfl⟩
   ·go_wp2_with fail
    go_roundg g
    case measure=>omega
    case rel=>exact⟨2,by omega,rfl⟩
theorem zlI{c:Int}(h1:128≤c)(hv:Utf8.valid c=true): ∃ (k:Nat) (x:UInt8),(Utf8.encode c).size=k∧2≤k∧k≤4∧128≤x.toNat∧ ∀ h:k - 1<(Utf8.encode c).size,(Utf8.encode c)[k - 1]'h=x:=by
 obtain⟨a,b,h⟩:=encode_facts c hv h1
 exact⟨_,_,rfl,a,b,h (by omega),fun _=>rfl⟩
theorem zbF(c:Int)(h1:128≤c)(h2:c≤2147483647)(hb:c≠65533)(w:World):Calls Tryz.prog 260 #[.string zs,.int .i32 c] w fun e w'=>e= .returned (.int .i64 (-1))∧Below w.heap.size w w':=by
 have e1:(c==65533)=false:=beq_eq_false_iff_ne.2 hb
 have e0:decide (c<128)=false:=decide_eq_false (by omega)
 have cv:=Tryz.utf8_ValidRune c w
 obtain⟨b,hbv⟩: ∃ b,Lib.validRune c=b:=⟨_,rfl⟩
 rw[hbv] at cv
 cases b with
 |false=>
  clear hbv
  go_enter Tryz.func260,Tryz.ntmps260
  go_wp2_with (go_at_call 269;refine cv.mono ?_;rintro e w' ⟨rfl,rfl⟩)
  go_ret
  exact⟨rfl,Below.refl _ _⟩
 |true=>
  have hv:Utf8.valid c=true:=by
   simp only[Lib.validRune,decide_eq_true_eq] at hbv
   simp only[Utf8.valid,Bool.or_eq_true,Bool.and_eq_true,decide_eq_true_eq]
   omega
  obtain⟨k,x,hk,k2,k4,hx,hl⟩:=zlI h1 hv
  have hcv:=fun (w:World)=>run_convert_int_string (P:=Tryz.prog) w 21 9 .i32 c (by kernel_rfl) Tryz.underlying9
  generalize Utf8.encode c=rs at hk hl hcv
  have HL:=Lib.hid hl
  clear hbv hv hl
  go_enter Tryz.func260,Tryz.ntmps260
  go_wp2_with (go_at_call 269;refine cv.mono ?_;rintro e w' ⟨rfl,rfl⟩)
  by_cases h3:3≤k
  ·have hlt:decide ((k:Int) - 1<2)=false:=decide_eq_false (by omega)
   go_step3
   go_wp2_with fail
   go_loopg [9] 0 (fun g x wx=>g=0∧x= .int .i64 ((k:Int) - 1)∧wx=w')
   case atStart=>exact⟨rfl,rfl,rfl⟩
   case round=>
    obtain⟨rfl,rfl,rfl⟩:=hrel
    go_wp2_with fail
    rw[Exit.noGoto_ret]
    go_ret
    exact⟨rfl,Below.refl _ _⟩
  ·obtain rfl:k=2:=by omega
   have ex:rs[1]'(by omega)=x:=HL.out (by omega)
   have ne:Lib.indexByte ByteArray.empty.data.toList (x.toNat:Int).toNat.toUInt8= -1:=rfl
   have CE:=Lib.hid ne
   clear ne
   have nx:(((zs[1]'(by decide)).toNat:Int) != (x.toNat:Int))=true:=by
    rw[bne_iff_ne]
    have:(zs[1]'(by decide)).toNat=47:=by decide
    omega
   have eb:((0:Int)<(rs.size:Int)):=by omega
   have CI:=Lib.hid (fun (B:Nat) (W:World) (x1:Ext B W)=>((Tryz.strings_IndexByte ByteArray.empty x.toNat x1.w).mono (fun e v h=>(⟨h.1,x1,h.2⟩:e= .returned (.int .i64 (-1))∧ ∃ z:Ext B W,v=z.w))))
   have hw2:IntKind.i64.wrap 2=2:=by decide
   have hsl: ∀ w:World,(Instr.slice 9 (.string zs) (some (.int .i64 2)) none none).run Tryz.prog w= .ok (.string ByteArray.empty) w:=fun w=>by kernel_rfl
   go_step3
   go_wp2_with fail
   go_loopg [9] 0 (fun g x wx=>g=0∧x= .int .i64 1∧wx=w')
   case atStart=>exact⟨rfl,rfl,rfl⟩
   case round=>
    obtain⟨rfl,rfl,rfl⟩:=hrel
    go_wp2_with fail
    go_step3
    go_wp2_with fail
    refine Xj wr.heap.size (by kernel_rfl) (by kernel_rfl) ?_
    repeat(go_big_quiet_step (fail))
    refine wpQuiet_nil ?_
    intro x1
    go_wp2_with fail
    refine Xj wr.heap.size (by kernel_rfl) (by kernel_rfl) ?_
    repeat(go_big_quiet_step ((go_at_call 216;exact CI.out _ _ _)))
    refine wpQuiet_nil ?_
    intro x2
    go_wp2_with fail
    rw[Exit.noGoto_ret]
    go_wp2_with fail
    rw[Exit.noGoto_ret]
    go_ret
    exact⟨rfl,x1.b.trans x2.b⟩
def badB(c:UInt8):Bool:=c==0||c==47
def clean(l:List UInt8)(i:Nat):Prop:=(l.take i).any badB=false
theorem zgu(s:ByteArray)(i:Nat)(h:i<s.size):s.get! i=s[i]'h:=by
 simp[ByteArray.get!,getElem!_pos,h]
 rfl
theorem zeA{x:UInt8}(h:128≤x.toNat):badB x=false:=by
 unfold badB
 rw[Bool.or_eq_false_iff]
 refine⟨beq_eq_false_iff_ne.2 fun e=> ?_,beq_eq_false_iff_ne.2 fun e=> ?_⟩<;> subst e<;> simp at h
theorem yx{s:ByteArray}{i:Nat}(hc:clean s.data.toList i): ∀ k,(∀ j,j<k→ ∃ h:i+j<s.size,badB (s[i+j]'h)=false)→clean s.data.toList (i+k)
 |0,_=>hc
 |k+1,hk=>by
  have ih:=yx hc k fun j hj=>hk j (by omega)
  obtain⟨h,hb⟩:=hk k (by omega)
  unfold clean at ih ⊢
  rw[show i+(k+1)=(i+k)+1 by omega,lbJz,List.any_append,ih]
  have:s.data.toList[i+k]? =some (s[i+k]'h):=Lib.data_getElem? s (i+k) h
  rw[this]
  simp[hb]
theorem zhN{s:ByteArray}{i:Nat}(hi:i<s.size)(hx:128≤(s[i]'hi).toNat)(hc:clean s.data.toList i):clean s.data.toList (i+(Utf8.decode s i).2)∧i+(Utf8.decode s i).2≤s.size:=by
 have e0:=zgu s i hi
 have hat: ∀ j,1≤j→ ∀ k,k/64=2→j<s.size - i→(s.get! (i+j)).toNat=k→ ∃ h:i+j<s.size,badB (s[i+j]'h)=false:=fun j h1 k hk hj he=>by
  have h:i+j<s.size:=by omega
  refine⟨h,zeA ?_⟩
  rw[zgu s (i+j) h] at he
  omega
 have z: ∃ h:i+0<s.size,badB (s[i+0]'h)=false:=⟨hi,zeA hx⟩
 rw[Lib.decode_at,e0]
 rcases Lib.decodeN_shape (s.size - i) (s[i]'hi).toNat (s.get! (i+1)).toNat (s.get! (i+2)).toNat (s.get! (i+3)).toNat with ⟨h,_⟩|⟨_,h1,h2,_,e⟩|⟨_,h1,h2,h3,_,_,e⟩|⟨_,h1,h2,h3,h4,_,_,e⟩|e
 ·omega
 ·rw[e]
  refine⟨yx hc 2 fun j hj=> ?_,by simp only;omega⟩
  have:j=0∨j=1:=by omega
  rcases this with rfl|rfl
  ·exact z
  ·exact hat 1 (by omega) _ h2 h1 rfl
 ·rw[e]
  refine⟨yx hc 3 fun j hj=> ?_,by simp only;omega⟩
  have:j=0∨j=1∨j=2:=by omega
  rcases this with rfl|rfl|rfl
  ·exact z
  ·exact hat 1 (by omega) _ h2 (by omega) rfl
  ·exact hat 2 (by omega) _ h3 (by omega) rfl
 ·rw[e]
  refine⟨yx hc 4 fun j hj=> ?_,by simp only;omega⟩
  have:j=0∨j=1∨j=2∨j=3:=by omega
  rcases this with rfl|rfl|rfl|rfl
  ·exact z
  ·exact hat 1 (by omega) _ h2 (by omega) rfl
  ·exact hat 2 (by omega) _ h3 (by omega) rfl
  ·exact hat 3 (by omega) _ h4 (by omega) rfl
 ·rw[e]
  refine⟨yx hc 1 fun j hj=> ?_,by simp only;omega⟩
  have:j=0:=by omega
  subst this
  exact z
theorem zhQ(s:ByteArray)(i:Nat):(Utf8.decode s i).1≤2147483647:=decode_le s i
theorem zpm{s:ByteArray}{i:Nat}(hi:i<s.size)(hb:badB (s[i]'hi)=true):s.data.toList.any badB=true:=by
 rw[ldMz]
 exact⟨s[i]'hi,laQz (Lib.data_getElem? s i hi),hb⟩
def At_(s:ByteArray)(r:Int):Prop:=decide (0≤r)=s.data.toList.any badB
def znz(s:ByteArray)(w:World)(e:Ending)(w':World):Prop:= ∃ r:Int,At_ s r∧e= .returned (.int .i64 r)∧Below w.heap.size w w'
theorem zlP(x:UInt8):decide (0≤Lib.indexByte zs.data.toList x)=badB x:=by
 show decide (0≤Lib.indexByte [0,47] x)=badB x
 by_cases h0:x=0
 ·subst h0;decide
 by_cases h1:x=47
 ·subst h1;decide
 have e0:((0:UInt8)==x)=false:=beq_eq_false_iff_ne.2 fun e=>h0 e.symm
 have e1:((47:UInt8)==x)=false:=beq_eq_false_iff_ne.2 fun e=>h1 e.symm
 unfold badB
 rw[beq_eq_false_iff_ne.2 h0,beq_eq_false_iff_ne.2 h1]
 simp[Lib.indexByte,e0,e1]
theorem zbB(s:ByteArray)(w:World)(h8:s.size≤8):Calls Tryz.prog 246 #[.string s,.string zs] w (znz s w):=by
 have h8z:decide ((8:Int)<(s.size:Int))=false:=decide_eq_false (by omega)
 have CU:=Tryz.strings_shouldUseASCIISet (s.size:Int) w
 rw[h8z] at CU
 clear h8z
 go_enter Tryz.func246,Tryz.ntmps246
 go_wp2_with (go_at_call 261;refine CU.mono ?_;rintro e w' ⟨rfl,rfl⟩)
 go_loopg [9,10] s.size (fun g _ _ wx=> ∃ i:Nat,i≤s.size∧i+g=s.size∧wx.heap[w'.heap.size]? =some (.stringIter s i)∧Hid (Below w'.heap.size w' wx∧clean s.data.toList i))
 case atStart=>exact⟨0,by omega,by omega,World.iter_heap _ _ _,Lib.hid ⟨(Below.refl _ _).alloc (Nat.le_refl _) _,rfl⟩⟩
 case round=>
  obtain⟨i,hle,hig,hit,HN⟩:=hrel
  by_cases hi:i<s.size
  ·obtain⟨x,hx⟩: ∃ x:UInt8,s[i]'hi=x:=⟨_,rfl⟩
   by_cases h128:x.toNat<128
   ·have hnx:=fun ty=>run_next_ascii_at (P:=Tryz.prog) wr w'.heap.size s i ty hit hi (by rw[hx];exact h128)
    rw[hx] at hnx
    have hzi:=zlP x
    have hback:((x.toNat:Int)).toNat.toUInt8=x:=by simp
    have HW:=Lib.hid (below_iterAt HN.out.1 (Nat.le_refl _) s (i+1))
    have HI:=Lib.hid (iterAt_heap wr w'.heap.size s i (i+1) hit)
    have CR:=Tryz.strings_IndexRune_ascii zs (x.toNat:Int) (wr.iterAt w'.heap.size s (i+1)) (by omega) (by omega)
    rw[hback] at CR
    cases hb:badB x with
    |true=>
     rw[hb] at hzi
     have hge:(0:Int)≤Lib.indexByte zs.data.toList x:=of_decide_eq_true hzi
     have HD:=Lib.hid (zpm hi (by rw[hx];exact hb))
     clear hx hb hzi hback hit
     go_wp2_with (go_at_call 260;refine CR.mono ?_;rintro e w2 ⟨rfl,rfl⟩)
     go_ret
     exact⟨i,by unfold At_;rw[HD.out];simp,rfl,HW.out⟩
    |false=>
     rw[hb] at hzi
     have hlt:¬(0:Int)≤Lib.indexByte zs.data.toList x:=of_decide_eq_false hzi
     have HC:=Lib.hid (yx HN.out.2 1 fun j hj=>⟨by omega,by
      obtain rfl:j=0:=by omega
      show badB (s[i]'hi)=false
      rw[hx];exact hb⟩)
     clear hx hb hzi hback hit
     go_wp2_with (go_at_call 260;refine CR.mono ?_;rintro e w2 ⟨rfl,rfl⟩)
     go_roundg (gk - 1)
     case measure=>omega
     case rel=>exact⟨i+1,by omega,by omega,HI.out,Lib.hid ⟨HW.out,HC.out⟩⟩
   ·have hnx:=fun ty=>run_next_any_at (P:=Tryz.prog) wr w'.heap.size s i ty hit hi
    have hh:=decode_high s i hi (by rw[hx];omega)
    have ht:=zhQ s i
    have hcw:=zhN hi (by rw[hx];omega) HN.out.2
    have hw0:=fun q=>below_iterAt HN.out.1 (Nat.le_refl _) s q
    have hi0:=fun q=>iterAt_heap wr w'.heap.size s i q hit
    have hlt:=(Array.getElem?_eq_some_iff.1 hit).1
    generalize Utf8.decode s i=d at hnx hh ht hcw
    obtain⟨c,k⟩:=d
    simp only at hnx hh ht hcw
    have HC:=Lib.hid hcw
    have HW:=Lib.hid (hw0 (i+k))
    have HI:=Lib.hid (hi0 (i+k))
    have HS:=Lib.hid (iterAt_size wr w'.heap.size s (i+k))
    have CR: ∀ W:World,Calls Tryz.prog 260 #[.string zs,.int .i32 (c:Int)] W fun e w'=>e= .returned (.int .i64 (-1))∧Below W.heap.size W w':=fun W=>by
     by_cases hc:(c:Int)=65533
     ·rw[hc];exact zcE W
     ·exact zbF c (by omega) (by omega) hc W
    have HL:=Lib.hid hlt
    clear hx hcw hw0 hi0 hit hlt
    go_wp2_with (go_at_call 260;refine(CR _).mono ?_;rintro e w2 ⟨rfl,hb2⟩;have HB2:=Lib.hid hb2;clear hb2)
    go_roundg (gk - k)
    case measure=>omega
    case rel=>
     have hsz:=HS.out
     have hlt:=HL.out
     exact⟨i+k,HC.out.2,by have:=HC.out.2;omega,(HB2.out.block _ (by rw[hsz];exact hlt)).trans HI.out,Lib.hid ⟨HW.out.trans (HB2.out.mono HW.out.size),HC.out.1⟩⟩
  ·obtain rfl:i=s.size:=by omega
   have hnx:=fun ty=>run_next_end_at (P:=Tryz.prog) wr w'.heap.size s s.size ty hit hi
   clear hit
   go_wp2_with fail
   go_ret
   exact⟨-1,by
    have:=HN.out.2
    unfold clean at this
    rw[ldNz (by simp)] at this
    unfold At_
    rw[this];rfl,rfl,HN.out.1⟩
theorem znr: ∀ l:List UInt8,decide (0≤Lib.indexAny l zs.data.toList)=l.any badB
 |[]=>rfl
 |b::l=>by
  have ih:=znr l
  have hge:=Lib.indexAny_ge zs.data.toList l
  have hc:zs.data.toList.contains b=badB b:=by
   show([0,47]:List UInt8).contains b=badB b
   unfold badB
   simp only[List.contains,List.elem]
   cases b==0<;> cases b==47<;> rfl
  rw[Lib.indexAny,hc,List.any_cons]
  cases hb:badB b with
  |true=>simp
  |false=>
   simp only[Bool.false_eq_true,if_false,Bool.false_or]
   rw[←ih]
   by_cases h:Lib.indexAny l zs.data.toList= -1
   ·simp[h]
   ·have e:(Lib.indexAny l zs.data.toList== -1)=false:=beq_eq_false_iff_ne.2 h
    rw[e]
    by_cases h0:0≤Lib.indexAny l zs.data.toList
    ·rw[decide_eq_true h0,decide_eq_true]
     show 0≤Lib.indexAny l zs.data.toList+1
     omega
    ·omega
theorem zhC(w:World):(zeroValue 293).run Tryz.prog w= .ok (.agg (Array.replicate 256 (.bool false))) w:=by kernel_rfl
theorem zdH(s:ByteArray)(w:World)(hs:s.size≤1000000):Calls Tryz.prog 246 #[.string s,.string zs] w (znz s w):=by
 by_cases h8:s.size≤8
 ·exact zbB s w h8
 ·refine(Tryz.strings_IndexAny_long zhC s zs w (by decide) (by omega) (by omega) (by decide) (fun j b hj=>by
   match j,hj with
   |0,hj=>simp at hj;subst hj;decide
   |1,hj=>simp at hj;subst hj;decide
   |j+2,hj=>simp at hj)).mono fun e w' ⟨he,hw⟩=>⟨_,znr _,he, ?_⟩
  rw[hw]
  exact((Below.refl _ _).alloc (Nat.le_refl _) _).alloc (by simp) _
theorem xJ{a b:Bool}(h:a=b):Ending.returned (.bool a)= .returned (.bool b):=by rw[h]
theorem zat(s:ByteArray)(w:World)(hs:s.size≤1000000):Calls Tryz.prog 223 #[.string s,.string zs] w fun e w'=>e= .returned (.bool (s.data.toList.any badB))∧Below w.heap.size w w':=by
 have C:=zdH s w hs
 generalize hB:s.data.toList.any badB=b
 have HB:=Lib.hid hB
 clear hB
 go_enter Tryz.func223,Tryz.ntmps223
 go_wp2_with (go_at_call 246;refine C.mono ?_;rintro e w' ⟨r,hr,rfl,hb⟩;have HR:=Lib.hid hr;clear hr)
 go_ret
 exact⟨xJ (by rw[←HB.out,←HR.out]),hb⟩
theorem zbU(s:ByteArray)(w:World)(hs:s.size≤maxLen):Calls Tryz.prog 195 #[.string s] w fun e w'=>e= .returned (.bool (In.isName s))∧Below w.heap.size w w':=by
 unfold maxLen at hs
 obtain⟨B,hB⟩: ∃ B,In.isName s=B:=⟨_,rfl⟩
 rw[hB]
 have HB:=Lib.hid hB
 clear hB
 by_cases h1:s.size<1
 ·have e1:decide ((1:Int)≤(s.size:Int))=false:=decide_eq_false (by omega)
  have HF:=Lib.hid (show B=false by rw[←HB.out];simp[In.isName,show ¬1≤s.size by omega])
  clear h1
  go_enter Tryz.func195,Tryz.ntmps195
  go_wp2_with fail
  go_ret
  exact⟨xJ (by rw[HF.out]),Below.refl _ _⟩
 by_cases h32:32<s.size
 ·have e1:decide ((1:Int)≤(s.size:Int))=true:=decide_eq_true (by omega)
  have e2:decide ((s.size:Int)≤(32:Int))=false:=decide_eq_false (by omega)
  have HF:=Lib.hid (show B=false by rw[←HB.out];simp[In.isName,show ¬s.size≤32 by omega])
  clear h1
  go_enter Tryz.func195,Tryz.ntmps195
  go_wp2_with fail
  go_ret
  exact⟨xJ (by rw[HF.out]),Below.refl _ _⟩
 have e1:decide ((1:Int)≤(s.size:Int))=true:=decide_eq_true (by omega)
 have e2:decide ((s.size:Int)≤(32:Int))=true:=decide_eq_true (by omega)
 have C:=zat s w (by omega)
 have HN:=Lib.hid (show B=(!(s.data.toList.any badB)&& !(s.data.toList==[46])&& !(s.data.toList==[46,46])) by
  rw[←HB.out]
  simp only[In.isName,show 1≤s.size by omega,show s.size≤32 by omega,decide_true,Bool.true_and]
  rfl)
 cases hb:s.data.toList.any badB with
 |true=>
  rw[hb] at C
  have HF:=Lib.hid (show B=false by rw[HN.out,hb];rfl)
  clear hb
  go_enter Tryz.func195,Tryz.ntmps195
  go_wp2_with (go_at_call 223;refine C.mono ?_;rintro e w' ⟨rfl,hb2⟩)
  go_ret
  exact⟨xJ (by rw[HF.out]),hb2⟩
 |false=>
  rw[hb] at C
  have HF:=Lib.hid (show B=(!(s.data.toList==[46])&& !(s.data.toList==[46,46])) by rw[HN.out,hb];rfl)
  clear hb
  go_enter Tryz.func195,Tryz.ntmps195
  go_wp2_with (go_at_call 223;refine C.mono ?_;rintro e w' ⟨rfl,hb2⟩)
  all_goals
   go_ret
   refine⟨xJ ?_,hb2⟩
   rw[HF.out,←ByteArray.toList_eq]
   try simp[*]
end
section
open Go.RowKit Go.Maps
theorem yf{t:TabD}{id:Int}{dir:Bool}:(In.getE t id dir=0∧ ∃ n,In.find t.nodes id=some n∧n.dir=dir)∨In.getE t id dir≠0:=by
 unfold In.getE
 cases h:In.find t.nodes id with
 |none=>right;show(3:Int)≠0;decide
 |some n=>
  by_cases hd:n.dir=dir
  ·left;subst hd;exact⟨by simp,n,rfl,rfl⟩
  ·right
   have:(n.dir==dir)=false:=beq_eq_false_iff_ne.2 hd
   simp[this]
theorem zW{t:TabD}{id:Int}{n:NodeD}(h:In.find t.nodes id=some n):In.at_ t id=n:=by unfold In.at_;rw[h]
section
variable {t:TabD}{id:Int}{n:NodeD}(h:In.find t.nodes id=some n)
include h
theorem xW(s:ByteArray)(k:Int):In.nameIn t id s k=In.setN t {n with names:=In.with_ n.names s k}:=by unfold In.nameIn;rw[zW h];rfl
theorem ZK(s:ByteArray):In.nameOut t id s=In.setN t {n with names:=In.without n.names s}:=by unfold In.nameOut;rw[zW h];rfl
theorem ziu:In.linksUp t id=In.setN t {n with links:=n.links+1}:=by unfold In.linksUp;rw[zW h];rfl
theorem XO:In.linksDown t id=In.setN t {n with links:=n.links - 1}:=by unfold In.linksDown;rw[zW h];rfl
theorem zhM:In.holdsUp t id=In.setN t {n with holds:=n.holds+1}:=by unfold In.holdsUp;rw[zW h];rfl
theorem zdy:In.holdsDown t id=In.setN t {n with holds:=n.holds - 1}:=by unfold In.holdsDown;rw[zW h];rfl
theorem zao(v:ByteArray):In.dataOf t id v=In.setN t {n with data:=v}:=by unfold In.dataOf;rw[zW h];rfl
end
theorem zm{x:Int}(h:x≠0):(x==0)=false:=beq_eq_false_iff_ne.2 h
theorem zG{x:Int}(h:x≠0):(x != 0)=true:=bne_iff_ne.2 h
theorem zw{w:World}{b m:Nat}{n:NodeD}(h:NodeAt w b m n):w.cell? ⟨b,0,none⟩=some (.bool n.dir)∧w.cell? ⟨b,1,none⟩=some (.int .i64 n.links)∧w.cell? ⟨b,2,none⟩=some (.int .i64 n.holds)∧w.cell? ⟨b,3,none⟩=some (.string n.data)∧w.cell? ⟨b,4,none⟩=some (.map (some m)):=
 ⟨ZB h.row 0,ZB h.row 1,ZB h.row 2,ZB h.row 3,ZB h.row 4⟩
theorem zS{w:World}{g mb:Nat}{β:Int→Nat×Nat}{t:TabD}(h:TblAt w g mb β t):w.cell? ⟨g,0,none⟩=some (.int .i64 t.quota)∧w.cell? ⟨g,1,none⟩=some (.int .i64 t.used)∧w.cell? ⟨g,2,none⟩=some (.int .i64 t.last)∧w.cell? ⟨g,3,none⟩=some (.map (some mb)):=
 ⟨ZB h.row 0,ZB h.row 1,ZB h.row 2,ZB h.row 3⟩
section
variable {w:World}{g mb:Nat}{β:Int→Nat×Nat}{t:TabD}
theorem yG(h:TblAt w g mb β t)(hq:0<t.quota){dir:Int}(hid:Fits dir){s:ByteArray}(hs:s.size≤maxLen){n:NodeD}(hn:In.find t.nodes dir=some n)(hd:n.dir=true)(hN:In.isName s=true):
  Calls Tryz.prog 160 #[.pointer (some ⟨g,0,none⟩),.int .i64 dir,.string s] w fun e w'=>e= .returned (.tuple #[.pointer (some ⟨(β dir).1,0,none⟩),.int .i64 0])∧Below w.heap.size w w':=by
 have cg:=ZJ h hq hid hn hd
 have cn:=zbU s w hs
 rw[hN] at cn
 clear h hq hn hd hN
 go_enter Tryz.func160,Tryz.ntmps160
 go_wp2_with (first|(go_at_call 165;refine cg.mono ?_;rintro e w' ⟨rfl,rfl⟩)|(go_at_call 195;refine cn.mono ?_;rintro e w' ⟨rfl,hb⟩))
 go_ret2
 exact⟨rfl,hb⟩
theorem zcU(h:TblAt w g mb β t)(hq:0<t.quota){dir:Int}(hid:Fits dir){s:ByteArray}(hs:s.size≤maxLen){E:Int}(hE:In.placeE t dir s=E)(h0:E≠0):
  Calls Tryz.prog 160 #[.pointer (some ⟨g,0,none⟩),.int .i64 dir,.string s] w fun e w'=>e= .returned (.tuple #[.pointer none,.int .i64 E])∧Below w.heap.size w w':=by
 unfold In.placeE at hE
 rcases yf (t:=t) (id:=dir) (dir:=true) with ⟨h1,n,hn,hd⟩|h1
 ·have cg:=ZJ h hq hid hn hd
  have cn:=zbU s w hs
  cases hN:In.isName s with
  |true=>rw[h1,hN] at hE;exact absurd hE.symm h0
  |false=>
   rw[h1,hN] at hE
   have hE:1=E:=hE
   subst hE
   rw[hN] at cn
   clear h hq hn hd hN h1
   go_enter Tryz.func160,Tryz.ntmps160
   go_wp2_with (first|(go_at_call 165;refine cg.mono ?_;rintro e w' ⟨rfl,rfl⟩)|(go_at_call 195;refine cn.mono ?_;rintro e w' ⟨rfl,hb⟩))
   go_ret2
   exact⟨rfl,hb⟩
 ·rw[zm h1] at hE
  have hE:In.getE t dir true=E:=hE
  have cg:=XJ h hq hid hE h0
  have e0:=zm h0
  clear h hq h1 hE h0
  go_enter Tryz.func160,Tryz.ntmps160
  go_wp2_with (go_at_call 165;refine cg.mono ?_;rintro e w' ⟨rfl,rfl⟩)
  go_ret2
  exact⟨rfl,Below.refl _ _⟩
theorem Yf{dir:Int}{s:ByteArray}:(In.placeE t dir s=0∧ ∃ n,In.find t.nodes dir=some n∧n.dir=true∧In.isName s=true)∨In.placeE t dir s≠0:=by
 unfold In.placeE
 rcases yf (t:=t) (id:=dir) (dir:=true) with ⟨h1,n,hn,hd⟩|h1
 ·rw[h1]
  cases hN:In.isName s with
  |true=>exact .inl ⟨rfl,n,hn,hd,rfl⟩
  |false=>right;decide
 ·rw[zm h1];exact .inr h1
theorem zbj(h:TblAt w g mb β t)(hq:0<t.quota){dir:Int}(hid:Fits dir){s:ByteArray}(hs:s.size≤maxLen){n:NodeD}(hn:In.find t.nodes dir=some n)(hd:n.dir=true)(hN:In.isName s=true)(hl:In.leads n.names s=0):
  Calls Tryz.prog 159 #[.pointer (some ⟨g,0,none⟩),.int .i64 dir,.string s] w fun e w'=>e= .returned (.tuple #[.pointer (some ⟨(β dir).1,0,none⟩),.int .i64 0])∧Below w.heap.size w w':=by
 have cp:=yG h hq hid hs hn hd hN
 have HT:=Lib.hid h
 have HN:=Lib.hid hn
 have HL:=Lib.hid hl
 clear h hq hn hd hN hl
 go_enter Tryz.func159,Tryz.ntmps159
 go_wp2_with (go_at_call 160;refine cp.mono ?_;rintro e w' ⟨rfl,hb⟩;have HB:=Lib.hid hb;have hA:=(HT.out.below hb).at HN.out;have d4:=(zw hA).2.2.2.2;have ll:=ZS hA.names hs;rw[HL.out] at ll;clear hb hA)
 go_ret2
 exact⟨rfl,HB.out⟩
theorem Xo{dir:Int}{s:ByteArray}:(In.emptyE t dir s=0∧ ∃ n,In.find t.nodes dir=some n∧n.dir=true∧In.isName s=true∧In.leads n.names s=0)∨In.emptyE t dir s≠0:=by
 unfold In.emptyE
 rcases Yf (t:=t) (dir:=dir) (s:=s) with ⟨h1,n,hn,hd,hN⟩|h1
 ·rw[h1,zW hn]
  by_cases hl:In.leads n.names s=0
  ·rw[hl];exact .inl ⟨rfl,n,hn,hd,hN,hl⟩
  ·rw[zm hl];right;decide
 ·rw[zm h1];exact .inr h1
theorem zgi(h:TblAt w g mb β t)(hq:0<t.quota){dir:Int}(hid:Fits dir){s:ByteArray}(hs:s.size≤maxLen){E:Int}(hE:In.emptyE t dir s=E)(h0:E≠0):
  Calls Tryz.prog 159 #[.pointer (some ⟨g,0,none⟩),.int .i64 dir,.string s] w fun e w'=>e= .returned (.tuple #[.pointer none,.int .i64 E])∧Below w.heap.size w w':=by
 unfold In.emptyE at hE
 rcases Yf (t:=t) (dir:=dir) (s:=s) with ⟨h1,n,hn,hd,hN⟩|h1
 ·have cp:=yG h hq hid hs hn hd hN
  rw[h1,zW hn] at hE
  by_cases hl:In.leads n.names s=0
  ·rw[hl] at hE;exact absurd hE.symm h0
  ·rw[zm hl] at hE
   have hE:4=E:=hE
   subst hE
   have HT:=Lib.hid h
   have HN:=Lib.hid hn
   have HL:=Lib.hid hl
   have e1:=zG hl
   clear h hq hn hd hN hl h1
   go_enter Tryz.func159,Tryz.ntmps159
   go_wp2_with (go_at_call 160;refine cp.mono ?_;rintro e w' ⟨rfl,hb⟩;have HB:=Lib.hid hb;have hA:=(HT.out.below hb).at HN.out;have d4:=(zw hA).2.2.2.2;have ll:=ZS hA.names hs;clear hb hA)
   go_ret2
   exact⟨rfl,HB.out⟩
 ·rw[zm h1] at hE
  have hE:In.placeE t dir s=E:=hE
  have cp:=zcU h hq hid hs hE h0
  have e0:=zG h0
  clear h hq h1 hE h0
  go_enter Tryz.func159,Tryz.ntmps159
  go_wp2_with (go_at_call 160;refine cp.mono ?_;rintro e w' ⟨rfl,hb⟩)
  go_ret2
  exact⟨rfl,hb⟩
theorem xX{dir:Int}{s:ByteArray}:(In.findE t dir s=0∧ ∃ n,In.find t.nodes dir=some n∧n.dir=true∧In.isName s=true∧In.leads n.names s≠0∧In.findN t dir s=In.leads n.names s)∨(In.findE t dir s≠0∧In.findN t dir s=0):=by
 have key:In.findE t dir s=0→In.findN t dir s=In.leads (In.at_ t dir).names s:=fun h=>by unfold In.findN;rw[h];rfl
 have key2:In.findE t dir s≠0→In.findN t dir s=0:=fun h=>by unfold In.findN;rw[zm h];rfl
 by_cases h0:In.findE t dir s=0
 ·left
  refine⟨h0, ?_⟩
  have hk:=key h0
  unfold In.findE at h0
  rcases Yf (t:=t) (dir:=dir) (s:=s) with ⟨h1,n,hn,hd,hN⟩|h1
  ·rw[h1,zW hn] at h0
   rw[zW hn] at hk
   refine⟨n,hn,hd,hN,fun hl=> ?_,hk⟩
   rw[hl] at h0
   exact absurd h0 (by decide)
  ·rw[zm h1] at h0;exact absurd h0 h1
 ·exact .inr ⟨h0,key2 h0⟩
theorem YV(h:TblAt w g mb β t)(hq:0<t.quota){dir:Int}(hid:Fits dir){s:ByteArray}(hs:s.size≤maxLen):
  Calls Tryz.prog 107 #[.pointer (some ⟨g,0,none⟩),.int .i64 dir,.string s] w fun e w'=>e= .returned (.tuple #[.int .i64 (In.findN t dir s),.int .i64 (In.findE t dir s)])∧Below w.heap.size w w':=by
 obtain⟨E,hE⟩: ∃ E,In.findE t dir s=E:=⟨_,rfl⟩
 obtain⟨N,hNN⟩: ∃ N,In.findN t dir s=N:=⟨_,rfl⟩
 have hdec:=xX (t:=t) (dir:=dir) (s:=s)
 rw[hE,hNN] at hdec ⊢
 unfold In.findE at hE
 rcases Yf (t:=t) (dir:=dir) (s:=s) with ⟨h1,n,hn,hd,hN⟩|h1
 ·have cp:=yG h hq hid hs hn hd hN
  rw[h1,zW hn] at hE
  have HT:=Lib.hid h
  have HN:=Lib.hid hn
  by_cases hl:In.leads n.names s=0
  ·rw[hl] at hE
   have hE:3=E:=hE
   subst hE
   have hz:N=0:=by rcases hdec with ⟨h,_⟩|⟨_,h⟩;exact absurd h (by decide);exact h
   subst hz
   have HL:=Lib.hid hl
   clear h hq hn hd hN hl h1 hdec hNN
   go_enter Tryz.func107,Tryz.ntmps107
   go_wp2_with (go_at_call 160;refine cp.mono ?_;rintro e w' ⟨rfl,hb⟩;have HB:=Lib.hid hb;have hA:=(HT.out.below hb).at HN.out;have d4:=(zw hA).2.2.2.2;have ll:=ZS hA.names hs;rw[HL.out] at ll;clear hb hA)
   go_ret2
   exact⟨rfl,HB.out⟩
  ·rw[zm hl] at hE
   have hE:0=E:=hE
   subst hE
   have hz:In.leads n.names s=N:=by
    rcases hdec with ⟨_,m,hm,_,_,_,h⟩|⟨h,_⟩
    ·rw[hn] at hm;cases hm;exact h.symm
    ·exact absurd rfl h
   rw[hz] at hl
   have HL:=Lib.hid hz
   have e1:=zm hl
   clear h hq hn hd hN hl h1 hdec hNN hz
   go_enter Tryz.func107,Tryz.ntmps107
   go_wp2_with (go_at_call 160;refine cp.mono ?_;rintro e w' ⟨rfl,hb⟩;have HB:=Lib.hid hb;have hA:=(HT.out.below hb).at HN.out;have d4:=(zw hA).2.2.2.2;have ll:=ZS hA.names hs;rw[HL.out] at ll;clear hb hA)
   go_ret2
   exact⟨rfl,HB.out⟩
 ·rw[zm h1] at hE
  have hE:In.placeE t dir s=E:=hE
  have h0:E≠0:=by rw[←hE];exact h1
  have cp:=zcU h hq hid hs hE h0
  have hz:N=0:=by rcases hdec with ⟨h,_⟩|⟨_,h⟩;exact absurd h h0;exact h
  subst hz
  have e0:=zG h0
  clear h hq h1 hE h0 hdec hNN
  go_enter Tryz.func107,Tryz.ntmps107
  go_wp2_with (go_at_call 160;refine cp.mono ?_;rintro e w' ⟨rfl,hb⟩)
  go_ret2
  exact⟨rfl,hb⟩
theorem zcG(h:TblAt w g mb β t)(hq:0<t.quota){id k:Int}(hid:Fits id){n:NodeD}(hn:In.find t.nodes id=some n)(hd:n.dir=false)(hk:decide (k<0)=false):
  Calls Tryz.prog 162 #[.pointer (some ⟨g,0,none⟩),.int .i64 id,.int .i64 k] w fun e w'=>e= .returned (.tuple #[.pointer (some ⟨(β id).1,0,none⟩),.int .i64 0])∧w=w':=by
 have cg:=ZJ h hq hid hn hd
 clear h hq hn hd
 go_enter Tryz.func162,Tryz.ntmps162
 go_wp2_with (go_at_call 165;refine cg.mono ?_;rintro e w' ⟨rfl,rfl⟩)
 go_ret2
 exact⟨rfl,rfl⟩
theorem zbx{id k:Int}:(In.fileE t id k=0∧ ∃ n,In.find t.nodes id=some n∧n.dir=false∧decide (k<0)=false)∨In.fileE t id k≠0:=by
 unfold In.fileE
 rcases yf (t:=t) (id:=id) (dir:=false) with ⟨h1,n,hn,hd⟩|h1
 ·rw[h1]
  cases hk:decide (k<0) with
  |false=>exact .inl ⟨rfl,n,hn,hd,rfl⟩
  |true=>right;decide
 ·rw[zm h1];exact .inr h1
theorem zfa(h:TblAt w g mb β t)(hq:0<t.quota){id k:Int}(hid:Fits id){E:Int}(hE:In.fileE t id k=E)(h0:E≠0):
  Calls Tryz.prog 162 #[.pointer (some ⟨g,0,none⟩),.int .i64 id,.int .i64 k] w fun e w'=>e= .returned (.tuple #[.pointer none,.int .i64 E])∧w=w':=by
 unfold In.fileE at hE
 rcases yf (t:=t) (id:=id) (dir:=false) with ⟨h1,n,hn,hd⟩|h1
 ·have cg:=ZJ h hq hid hn hd
  rw[h1] at hE
  cases hk:decide (k<0) with
  |false=>rw[hk] at hE;exact absurd hE.symm h0
  |true=>
   rw[hk] at hE
   have hE:1=E:=hE
   subst hE
   clear h hq hn hd h1
   go_enter Tryz.func162,Tryz.ntmps162
   go_wp2_with (go_at_call 165;refine cg.mono ?_;rintro e w' ⟨rfl,rfl⟩)
   go_ret2
   exact⟨rfl,rfl⟩
 ·rw[zm h1] at hE
  have hE:In.getE t id false=E:=hE
  have cg:=XJ h hq hid hE h0
  have e0:=zm h0
  clear h hq h1 hE h0
  go_enter Tryz.func162,Tryz.ntmps162
  go_wp2_with (go_at_call 165;refine cg.mono ?_;rintro e w' ⟨rfl,rfl⟩)
  go_ret2
  exact⟨rfl,rfl⟩
end
end
end Go.Proofs.YtcicjklhbnipcaaGreatDoor
