/-
  Laid texts.
-/
import Derived.Test.YtcicjklhbnipcaaGreatDoorPkWpC
import Derived.Laws.OwnMore
import Derived.Lib.Strings
import Derived.LoopN
import Derived.Maps.AppendAt
set_option maxHeartbeats 16000000
set_option maxRecDepth 1000000
set_option linter.unusedVariables false
set_option linter.unusedSimpArgs false
namespace Go.Proofs.YtcicjklhbnipcaaGreatDoor
abbrev Wt(o:Oper)(ops:Array Oper)(a:Act):Prop:=Region.wanted o (yielded ops a.tmps)=true
section
open Go.RowKit
inductive Res where
 /-- just these cells -/
 |cells (cs:List Value) (t:TypeId)
 /-- 'n' cells,of which the first are these -/
 |pre (cs:List Value) (t:TypeId) (n:Nat)
 /-- these cells from 'off' on -/
 |part (off:Nat) (cs:List Value)
 |obj (p:Obj→Prop)
def Res.holds:Res→Option Obj→Prop
 | .cells cs t,o=>o=some (.cells cs.toArray t (0,0))
 | .pre cs t n,o=> ∃ rest:List Value,o=some (.cells (cs++rest).toArray t (0,0))∧(cs++rest).length=n
 | .part off cs,o=> ∃ cur t fr,o=some (.cells cur t fr)∧ ∀ j,j<cs.length→cur[off+j]? =cs[j]?
 | .obj p,o=> ∃ x,o=some x∧p x
def Res.known:Res→List Value
 | .cells cs _=>cs
 | .pre cs _ _=>cs
 |_=>[]
def Res.put:Res→List Value→Res
 | .cells _ t,cs=> .cells cs t
 | .pre _ t n,cs=> .pre cs t n
 |r,_=>r
abbrev Ent:=Nat×Bool×Res
structure St (w0:World) (F:List Nat) (w:World) (L:List Ent):Prop where
 only:Only F w0 w
 holds: ∀ x∈L,x.2.2.holds w.heap[x.1]?
 nd:(L.map (·.1)).Nodup
 own: ∀ x∈L,x.2.1=true→x.1∈F∨w0.heap.size≤x.1
def Has(L:List Ent)(w:World):Prop:= ∀ x∈L,x.2.2.holds w.heap[x.1]?
structure Held (w0:World) (F:List Nat) (L:List Ent) (w:World):Prop where
 only:Only F w0 w
 has:Has L w
inductive Upd:List Ent→Ent→Ent→List Ent→Prop where
 |head {x y:Ent} {L:List Ent}:Upd (x::L) x y (y::L)
 |tail {x y z:Ent} {L L':List Ent} (h:Upd L x y L'):Upd (z::L) x y (z::L')
theorem Res.lt{r:Res}{w:World}{b:Nat}(h:r.holds w.heap[b]?):b<w.heap.size:=by
 cases r with
 |cells cs t=>exact(Array.getElem?_eq_some_iff.1 (show w.heap[b]? =some _ from h)).1
 |pre cs t n=>obtain⟨rest,hx,-⟩:=h;exact(Array.getElem?_eq_some_iff.1 hx).1
 |part off cs=>obtain⟨cur,t,fr,hx,-⟩:=h;exact(Array.getElem?_eq_some_iff.1 hx).1
 |obj p=>obtain⟨x,hx,-⟩:=h;exact(Array.getElem?_eq_some_iff.1 hx).1
theorem Upd.mem{L L':List Ent}{x y:Ent}(h:Upd L x y L'):x∈L:=by
 induction h with
 |head=>exact .head _
 |tail _ ih=>exact .tail _ ih
theorem Upd.of_mem{L L':List Ent}{x y z:Ent}(h:Upd L x y L')(hz:z∈L'):z=y∨z∈L:=by
 induction h with
 |head=>rcases laBz.1 hz with rfl|h;exact .inl rfl;exact .inr (.tail _ h)
 |tail _ ih=>
  rcases laBz.1 hz with rfl|h
  ·exact .inr (.head _)
  ·rcases ih h with h|h
   ·exact .inl h
   ·exact .inr (.tail _ h)
theorem Upd.keys{L L':List Ent}{x y:Ent}(h:Upd L x y L')(hk:x.1=y.1):L'.map (·.1)=L.map (·.1):=by
 induction h with
 |head=>simp[hk]
 |tail _ ih=>simp[ih hk]
theorem Upd.other{L L':List Ent}{x y z:Ent}(h:Upd L x y L')(hnd:(L.map (·.1)).Nodup)(hz:z∈L'):z=y∨(z∈L∧z.1≠x.1):=by
 induction h with
 | @head x y L=>
  rcases laBz.1 hz with rfl|h1
  ·exact .inl rfl
  ·refine .inr ⟨.tail _ h1,fun e=> ?_⟩
   simp only[laDz,laTz] at hnd
   exact hnd.1 (e▸laLz h1)
 | @tail x y u L L' h ih=>
  simp only[laDz,laTz] at hnd
  rcases laBz.1 hz with rfl|h1
  ·refine .inr ⟨.head _,fun e=> ?_⟩
   exact hnd.1 (e▸laLz h.mem)
  ·rcases ih hnd.2 h1 with h2|h2
   ·exact .inl h2
   ·exact .inr ⟨.tail _ h2.1,h2.2⟩
inductive Sub:List Ent→List Ent→Prop where
 |nil {L:List Ent}:Sub [] L
 |skip {x:Ent} {M L:List Ent} (h:Sub M L):Sub M (x::L)
 |take {x:Ent} {M L:List Ent} (h:Sub M L):Sub (x::M) (x::L)
theorem Sub.all: ∀ (L:List Ent),Sub L L
 |[]=> .nil
 |_::L=> .take (Sub.all L)
theorem Sub.mem{M L:List Ent}(h:Sub M L): ∀ x∈M,x∈L:=by
 induction h with
 |nil=>exact nofun
 |skip _ ih=>exact fun x hx=> .tail _ (ih x hx)
 |take _ ih=>
  intro x hx
  rcases laBz.1 hx with rfl|hx
  ·exact .head _
  ·exact .tail _ (ih x hx)
inductive Rest:List Ent→Ent→List Ent→Prop where
 |here {x:Ent} {M L:List Ent} (h:Sub M L):Rest (x::L) x M
 |skip {x z:Ent} {M L:List Ent} (h:Rest L x M):Rest (z::L) x M
 |take {x z:Ent} {M L:List Ent} (h:Rest L x M):Rest (z::L) x (z::M)
theorem Rest.mem{M L:List Ent}{x:Ent}(h:Rest L x M):x∈L:=by
 induction h with
 |here _=>exact .head _
 |skip _ ih=>exact .tail _ ih
 |take _ ih=>exact .tail _ ih
theorem Rest.apart{M L:List Ent}{x:Ent}(h:Rest L x M)(hnd:(L.map (·.1)).Nodup): ∀ z∈M,z.1≠x.1:=by
 induction h with
 |here hs=>
  simp only[laDz,laTz] at hnd
  exact fun z hz e=>hnd.1 (e▸laLz (hs.mem z hz))
 |skip _ ih=>
  simp only[laDz,laTz] at hnd
  exact ih hnd.2
 |take h ih=>
  simp only[laDz,laTz] at hnd
  intro u hu
  rcases laBz.1 hu with rfl|hu
  ·exact fun e=>hnd.1 (e▸laLz h.mem)
  ·exact ih hnd.2 u hu
section
variable {w0 w w':World}{F:List Nat}{L L':List Ent}{b:Nat}{r:Res}
theorem St.lt(h:St w0 F w L){x:Ent}(hx:x∈L):x.1<w.heap.size:=Res.lt (h.holds x hx)
theorem St.fresh(h:St w0 [] w L)(hx:(b,true,r)∈L):w0.heap.size≤b:=(h.own _ hx rfl).resolve_left (by simp)
theorem St.blk(h:St w0 F w L){o:Bool}{cs:List Value}{t:TypeId}(hx:(b,o,.cells cs t)∈L):Blk w b cs t:=h.holds _ hx
theorem Has.lt(h:Has L w){x:Ent}(hx:x∈L):x.1<w.heap.size:=Res.lt (h x hx)
theorem St.start(w:World)(F:List Nat):St w F w []:=⟨Only.refl F w,nofun,lcHz,nofun⟩
theorem St.drew(h:St w0 F w L):St w0 F w.drew L:=⟨h.only.drew,h.holds,h.nd,h.own⟩
theorem Has.drew(h:Has L w):Has L w.drew:=h
theorem St.held(h:St w0 F w L){Lr:List Ent}(hs: ∀ x∈Lr,x∈L):Held w0 F Lr w:=⟨h.only,fun x hx=>h.holds x (hs x hx)⟩
theorem Held.drew(h:Held w0 F L w):Held w0 F L w.drew:=⟨h.only.drew,h.has⟩
theorem Has.below(h:Has L w)(hb:Below w.heap.size w w'):Has L w':=fun x hx=>by rw[hb.block x.1 (h.lt hx)];exact h x hx
theorem St.below(h:St w0 F w L)(hb:Below w.heap.size w w'):St w0 F w' L:=
 ⟨h.only.below (hb.mono h.only.size),Has.below h.holds hb,h.nd,h.own⟩
theorem Held.below(h:Held w0 F L w)(hb:Below w.heap.size w w'):Held w0 F L w':=⟨h.only.below (hb.mono h.only.size),h.has.below hb⟩
theorem yi(h:Only F w0 w){ad:Addr}{v:Value}(hc:w0.cell? ad=some v)(hF:ad.block∉F):w.cell? ad=some v:=by
 have hlt:=World.block_lt_of_cell? w0 ad hc
 unfold World.cell? at hc ⊢
 rw[h.block ad.block hlt hF]
 exact hc
theorem St.old(h:St w0 [] w L){ad:Addr}{v:Value}(hc:w0.cell? ad=some v):w.cell? ad=some v:=yi h.only hc (by simp)
theorem Held.old(h:Held w0 [] L w){ad:Addr}{v:Value}(hc:w0.cell? ad=some v):w.cell? ad=some v:=yi h.only hc (by simp)
theorem Has.push(h:Has L w)(o:Obj):Has L (w.alloc o):=h.below ((Below.refl _ w).alloc (Nat.le_refl _) o)
theorem St.push(h:St w0 F w L)(o:Obj)(hr:r.holds (some o)):St w0 F (w.alloc o) ((w.heap.size,true,r)::L):=by
 have h1:=h.below ((Below.refl _ w).alloc (Nat.le_refl _) o)
 refine⟨h1.only,fun x hx=> ?_, ?_,fun x hx=> ?_⟩
 ·rcases laBz.1 hx with rfl|hx
  ·have:(w.alloc o).heap[w.heap.size]? =some o:=heap_alloc_new w o
   simp only[this]
   exact hr
  ·exact h1.holds x hx
 ·simp only[laDz,laTz]
  refine⟨fun hm=> ?_,h.nd⟩
  obtain⟨x,hx,e⟩:=laKz.1 hm
  have:=h.lt hx
  omega
 ·rcases laBz.1 hx with rfl|hx
  ·exact fun _=> .inr h.only.size
  ·exact h.own x hx
theorem St.learn(h:St w0 F w L){o:Bool}(hr:r.holds w.heap[b]?)(hn: ∀ x∈L,x.1≠b)(ho:o=true→b∈F∨w0.heap.size≤b):St w0 F w ((b,o,r)::L):=by
 refine⟨h.only,fun x hx=> ?_, ?_,fun x hx=> ?_⟩
 ·rcases laBz.1 hx with rfl|hx
  ·exact hr
  ·exact h.holds x hx
 ·simp only[laDz,laTz]
  exact⟨fun hm=>by obtain⟨x,hx,e⟩:=laKz.1 hm;exact hn x hx e,h.nd⟩
 ·rcases laBz.1 hx with rfl|hx
  ·exact ho
  ·exact h.own x hx
theorem St.turn{o:Bool}{r':Res}(h:St w0 F w L)(hu:Upd L (b,true,r) (b,o,r') L')(hO:Only [b] w w')(hr:r'.holds w'.heap[b]?):St w0 F w' L':=by
 have hown:b∈F∨w0.heap.size≤b:=h.own _ hu.mem rfl
 have hF: ∀ x∈[b],x∈F∨w0.heap.size≤x:=fun x hx=>by
  have e:x=b:=by simpa using hx
  rw[e];exact hown
 refine⟨h.only.then hO hF,fun x hx=> ?_, ?_,fun x hx hx1=> ?_⟩
 ·rcases hu.other h.nd hx with rfl|⟨hx,hne⟩
  ·exact hr
  ·rw[hO.block x.1 (h.lt hx) (by simpa using hne)]
   exact h.holds x hx
 ·rw[hu.keys rfl];exact h.nd
 ·rcases hu.other h.nd hx with rfl|⟨hx,hne⟩
  ·exact hown
  ·exact h.own x hx hx1
theorem Has.turn{b:Nat}(h:Has L w)(hO:Only [b] w w')(hb: ∀ x∈L,x.1≠b):Has L w':=fun x hx=>by
 rw[hO.block x.1 (h.lt hx) (by simpa using hb x hx)];exact h x hx
theorem yL(b o:Nat)(v:Value):Only [b] w (w.setCell ⟨b,o,none⟩ v):=(Only.refl [b] w).setCell (p:=⟨b,o,none⟩) (.inl (by simp)) v
theorem zY(b:Nat): ∀ (vs:List Value) (o:Nat) (w:World),Only [b] w (w.setCells b o vs)
 |[],_,w=>Only.refl _ w
 |v::r,o,w=>(yL b o v).trans (zY b r (o+1) _)
theorem St.drop(h:St w0 F w L)(hs: ∀ x∈L',x∈L)(hnd:(L'.map (·.1)).Nodup):St w0 F w L':=⟨h.only,fun x hx=>h.holds x (hs x hx),hnd,fun x hx=>h.own x (hs x hx)⟩
theorem St.forget{x:Ent}(h:St w0 F w (x::L)):St w0 F w L:=h.drop (fun _ h=> .tail _ h) (by have:=h.nd;simp only[laDz,laTz] at this;exact this.2)
end
theorem Yz: ∀ (vs cs rest:List Value) (q:Nat),q+vs.length≤cs.length→over (cs++rest) q vs=over cs q vs++rest
 |[],_,_,_,_=>rfl
 |v::r,cs,rest,q,h=>by
  simp only[laPz] at h
  unfold over
  rw[List.set_append_left _ _ (by omega)]
  exact Yz r (cs.set q v) rest (q+1) (by rw[List.length_set];omega)
theorem Yo: ∀ (vs cs:List Value) (q:Nat),(over cs q vs).length=cs.length
 |[],_,_=>rfl
 |v::r,cs,q=>by unfold over;rw[Yo r];simp
section
variable {w:World}{b q:Nat}{r:Res}
theorem Res.whole(h:r.holds w.heap[b]?)(hk:q<r.known.length): ∃ rest t,Blk w b (r.known++rest) t∧(∀ cs,cs.length=r.known.length→ ∀ w':World,Blk w' b (cs++rest) t→(r.put cs).holds w'.heap[b]?):=by
 cases r with
 |cells cs t=>
  refine⟨[],t, ?_,fun cs' _ w' hw'=> ?_⟩
  ·unfold Blk;rw[laYz];exact h
  ·rw[laYz] at hw';exact hw'
 |pre cs t n=>
  obtain⟨rest,hx,hn⟩:=h
  refine⟨rest,t,hx,fun cs' hl w' hw'=>⟨rest,hw', ?_⟩⟩
  simp only[Res.known] at hl
  rw[laNz] at hn ⊢
  omega
 |part off cs=>exact absurd hk (by simp[Res.known])
 |obj p=>exact absurd hk (by simp[Res.known])
theorem Res.cell(h:r.holds w.heap[b]?){v:Value}(hv:r.known[q]? =some v):w.cell? ⟨b,q,none⟩=some v:=by
 have hq:q<r.known.length:=(laHz.1 hv).1
 obtain⟨rest,t,hb,-⟩:=Res.whole h hq
 rw[hb.cell,lcQz hq,hv]
theorem Res.range(h:r.holds w.heap[b]?){n:Nat}(hl:q+n≤r.known.length):w.rangeAt b q ((r.known.drop q).take n):=fun j v hv=>by
 rw[lcKz] at hv
 split at hv
 ·rw[lcFz] at hv
  exact Res.cell h hv
 ·cases hv
end
def oneB(P:Program)(t:TypeId):Bool:=(match P.underlying t with|some d=> !d.isRow|none=>false)&&((P.info? t).map (·.size)==some 1)
def XS(P:Program)(f:FuncId):Bool:=match P.funcs[f]? with|some fn=>fn.body.isSome&&fn.name != "runtime.NumGoroutine" |none=>false
section
variable {P:Program}{t:TypeId}{w:World}
theorem xY(h:oneB P t=true): ∃ d,P.underlying t=some d∧d.isRow=false∧(P.info? t).map (·.size)=some 1:=by
 unfold oneB at h
 simp only[Bool.and_eq_true] at h
 obtain⟨h1,h2⟩:=h
 cases hu:P.underlying t with
 |none=>rw[hu] at h1;cases h1
 |some d=>rw[hu] at h1;exact⟨d,rfl,by simpa using h1,by simpa using h2⟩
theorem YN(h:oneB P t=true){a:Addr}{v:Value}(hv:w.cell? a=some v):(loadVar t a).run P w= .ok v w:=by
 obtain⟨d,h1,h2,-⟩:=xY h
 have hagg:(isAgg t).run P w= .ok false w:=by
  unfold isAgg
  rw[Sem.run_bind,run_underlying h1 w]
  cases d<;> simp_all
 unfold loadVar
 rw[Sem.run_bind,hagg]
 simp[load,Sem.run,hv]
theorem XU(h:oneB P t=true){a:Addr}{v u:Value}(hv:w.cell? a=some u)(hf:w.frozen? a=false)(h1:v.oneCell'=true):(storeVar t a v).run P w= .ok () (w.setCell a v):=by
 obtain⟨d,-,-,h2⟩:=xY h
 cases hq:P.info? t with
 |none=>simp[hq] at h2
 |some i=>
  have hs:i.size=1:=by simpa[hq] using h2
  unfold storeVar
  cases v<;> simp_all [Value.oneCell',sizeOf,typeInfo,Value.cells,storeCells,store,Sem.run,Addr.add]
end
section
variable {P:Program}{K:Act→World→Prop}{a:Act}{w w0:World}{ops:Array Oper}{l:List (Oper×Nat)}{c:Nat}{o:Oper}{F:List Nat}{L L' Lr:List Ent}{b q:Nat}{ty t:TypeId}{x y:Operand}{cs:List Value}{ow:Bool}{S:World→Prop}
def znu:Op→Bool
 | .move _| .assign _| .pick .. | .nilCheck _| .binOp .. | .unOp .. | .convert .. | .fieldAddr .. | .field .. | .index .. | .indexAddr .. | .extract .. | .slice .. | .build .. | .makeInterface .. | .makeFunc .. =>true
 | .call {callee:= .builtin .len,..}| .call {callee:= .builtin .min,..}| .call {callee:= .builtin .max,..}| .call {callee:= .builtin .cap,..}=>true
 |_=>false
def ZA:List (Nat×Nat):=[(7,4),(8,4),(13,2),(14,2),(18,1),(19,1),(30,4),(31,4),(33,9),(34,9),(35,11),(36,11),(43,2),(44,2),(59,13),(60,13),(71,3),(72,3),(75,2),(76,2),(80,3),(81,3),(89,12),(90,12),(100,2),(101,2),(104,2),(105,2),(111,3),(112,3),(116,9),(117,9),(123,6),(124,6),(126,2),(127,2),(137,1),(138,1),(145,3),(146,3),(147,3),(148,3),(151,2),(152,2),(155,2),(156,2),(157,2),(158,2),(161,4),(162,4),(165,5),(166,5),(169,2),(170,2),(251,2),(255,2),(256,2),(292,256),(293,256),(303,256),(304,2),(305,2),(306,32),(307,4),(308,4),(309,0),(310,0),(311,0),(317,11),(318,11)]
def Zu:List (Nat×Nat)→Nat→Option Nat
 |[],_=>none
 |(x,s)::r,n=>bif Nat.beq x n then some s else Zu r n
def zfg:List (Nat×Nat×Nat×Nat):=[(22,36,11,112),(29,9,1,16),(45,23,1,8),(47,112,3,40),(49,3,1,8),(53,60,13,128),(74,148,3,24),(79,138,1,8),(82,54,1,8),(84,90,12,120),(106,85,1,8),(120,124,6,72),(122,127,2,24),(154,158,2,16),(254,5,1,1)]
def zgP:List (Nat×Nat×Nat×Nat)→Nat→Option (Nat×Nat×Nat)
 |[],_=>none
 |(x,s)::r,n=>bif Nat.beq x n then some s else zgP r n
theorem St.pure(hk:znu o.op=true)(hc:(c==0||c==2||c==3)=true){v:Value}(hw:Wt o ops a)(hy: ∀ w,(execOp a.eval o).run P w= .ok (.value v) w)(h:zg P ops K S l (a.put o.dst v) w):zg P ops K S ((o,c)::l) a w:=by
 match c with
 |0=>exact Xk hw hy h
 |1=>cases hc
 |2=>exact zB rfl hw (hy w) h
 |3=>exact zB rfl hw (hy w) h
 |c+4=>simp at hc
theorem yQ(hx:o.op= .load ty x){ad:Addr}(hev:a.eval x= .pointer (some ad)){w:World}{v:Value}(hv:w.cell? ad=some v)(h1:oneB P ty=true):(execOp a.eval o).run P w= .ok (.value v) w:=by
 unfold execOp
 simp only[hx,hev,Instr.loadAt,Instr.sureAddr,Sem.run_bind,Sem.run_pure,Result.andThen_ok,YN h1 hv]
theorem yP(hx:o.op= .load ty x)(hev:a.eval x= .pointer (some ⟨b,q,none⟩)){w:World}(vs:List Value)(hv:w.rangeAt b q vs)(h1:rowB P ty vs.length=true):(execOp a.eval o).run P w= .ok (.value (.agg vs.toArray)) w:=by
 obtain⟨d,e1,e2,e3⟩:=YL h1
 unfold execOp
 simp only[hx,hev,Instr.loadAt,Instr.sureAddr,Sem.run_bind,Sem.run_pure,Result.andThen_ok,run_loadVar_mid w b q ty vs d hv e1 e2 e3]
theorem St.load(hx:o.op= .load ty x)(hM:St w0 F w L)(hc:(c==2||c==3)=true)(hw:Wt o ops a)(hT:Zu ZA ty=none)(hev:a.eval x= .pointer (some ⟨b,q,none⟩)){r:Res}(hm:(b,ow,r)∈L){v:Value}(hv:r.known[q]? =some v)(h1:oneB P ty=true)
  (h:zg P ops K S l (a.put o.dst v) w):zg P ops K S ((o,c)::l) a w:=
 zB hc hw (yQ hx hev (Res.cell (hM.holds _ hm) hv) h1) h
theorem St.load1(hx:o.op= .load ty x)(hw:Wt o ops a)(hT:Zu ZA ty=none)(hev:a.eval x= .pointer (some ⟨b,q,none⟩)){r:Res}(hm:(b,ow,r)∈Lr){v:Value}(hv:r.known[q]? =some v)(h1:oneB P ty=true)
  (h:zg P ops K (Held w0 F Lr) l (a.put o.dst v) w):zg P ops K (Held w0 F Lr) ((o,1)::l) a w:=
 yh hw (fun w hS=>yQ hx hev (Res.cell (hS.has _ hm) hv) h1) h
theorem St.loadF(hx:o.op= .load ty x)(hc:(c==2||c==3)=true)(hw:Wt o ops a)(hT:Zu ZA ty=none){ad:Addr}(hev:a.eval x= .pointer (some ad)){v:Value}(hv:w.cell? ad=some v)(h1:oneB P ty=true)
  (h:zg P ops K S l (a.put o.dst v) w):zg P ops K S ((o,c)::l) a w:=
 zB hc hw (yQ hx hev hv h1) h
theorem St.loadF1(hx:o.op= .load ty x)(hw:Wt o ops a)(hT:Zu ZA ty=none){ad:Addr}(hev:a.eval x= .pointer (some ad)){v:Value}(hv: ∀ w,S w→w.cell? ad=some v)(h1:oneB P ty=true)
  (h:zg P ops K S l (a.put o.dst v) w):zg P ops K S ((o,1)::l) a w:=
 yh hw (fun w hS=>yQ hx hev (hv w hS) h1) h
theorem St.loadRow(hx:o.op= .load ty x)(hM:St w0 F w L)(hc:(c==2||c==3)=true)(hw:Wt o ops a){n:Nat}(hT:Zu ZA ty=some n)(hev:a.eval x= .pointer (some ⟨b,q,none⟩)){r:Res}(hm:(b,ow,r)∈L)(hl:q+n≤r.known.length)(h1:rowB P ty n=true)
  (h:zg P ops K S l (a.put o.dst (.agg ((r.known.drop q).take n).toArray)) w):zg P ops K S ((o,c)::l) a w:=by
 have hn:((r.known.drop q).take n).length=n:=by rw[lbTz,lbXz];omega
 exact zB hc hw (yP hx hev _ (Res.range (hM.holds _ hm) hl) (by rw[hn];exact h1)) h
theorem St.loadRow1(hx:o.op= .load ty x)(hw:Wt o ops a){n:Nat}(hT:Zu ZA ty=some n)(hev:a.eval x= .pointer (some ⟨b,q,none⟩)){r:Res}(hm:(b,ow,r)∈Lr)(hl:q+n≤r.known.length)(h1:rowB P ty n=true)
  (h:zg P ops K (Held w0 F Lr) l (a.put o.dst (.agg ((r.known.drop q).take n).toArray)) w):zg P ops K (Held w0 F Lr) ((o,1)::l) a w:=by
 have hn:((r.known.drop q).take n).length=n:=by rw[lbTz,lbXz];omega
 exact yh hw (fun w hS=>yP hx hev _ (Res.range (hS.has _ hm) hl) (by rw[hn];exact h1)) h
theorem St.loadRowF(hx:o.op= .load ty x)(hc:(c==2||c==3)=true)(hw:Wt o ops a){n:Nat}(hT:Zu ZA ty=some n)(hev:a.eval x= .pointer (some ⟨b,q,none⟩)){vs:List Value}(hv:w.rangeAt b q vs)(h1:rowB P ty vs.length=true)
  (h:zg P ops K S l (a.put o.dst (.agg vs.toArray)) w):zg P ops K S ((o,c)::l) a w:=
 zB hc hw (yP hx hev vs hv h1) h
theorem St.loadRowF1(hx:o.op= .load ty x)(hw:Wt o ops a){n:Nat}(hT:Zu ZA ty=some n)(hev:a.eval x= .pointer (some ⟨b,q,none⟩)){vs:List Value}(hv: ∀ w,S w→w.rangeAt b q vs)(h1:rowB P ty vs.length=true)
  (h:zg P ops K S l (a.put o.dst (.agg vs.toArray)) w):zg P ops K S ((o,1)::l) a w:=
 yh hw (fun w hS=>yP hx hev vs (hv w hS) h1) h
theorem St.store(hx:o.op= .store ty x y)(hM:St w0 F w L)(hc:(c==2||c==3)=true)(hw:Wt o ops a)(hT:Zu ZA ty=none)(hev:a.eval x= .pointer (some ⟨b,q,none⟩)){v:Value}(hy:a.eval y=v){r:Res}(hu:Upd L (b,true,r) (b,true,r.put (r.known.set q v)) L')(hq:q<r.known.length)(h1:oneB P ty=true)(hv:v.oneCell'=true)
  (hS:c=2→Rest L (b,true,r) Lr) (h: ∀ w',St w0 F w' L'→zg P ops K (Held w0 F Lr) l (a.put o.dst undef) w'):zg P ops K (Held w0 F Lr) ((o,c)::l) a w:=by
 have hr:r.holds w.heap[b]? :=hM.holds _ hu.mem
 have hown: ∀ x∈[b],x∈F∨w0.heap.size≤x:=fun x hx=>by
  have e:x=b:=by simpa using hx
  rw[e];exact hM.own _ hu.mem rfl
 obtain⟨rest,t,hb,hput⟩:=Res.whole hr hq
 have hrun:(execOp a.eval o).run P w= .ok .skip (w.setCell ⟨b,q,none⟩ v):=by
  unfold execOp
  simp only[hx,hev,hy,Instr.storeAt,Instr.sureAddr,Sem.run_bind,Sem.run_pure,Result.andThen_ok,XU h1 (Res.cell hr (laRz hq)) (hb.free q) hv]
 have hres:=hput (r.known.set q v) (by simp) (w.setCell ⟨b,q,none⟩ v) (by have:=hb.setCell q v;rwa [List.set_append_left _ _ hq] at this)
 exact zM hc hw hrun (.inr ⟨rfl,rfl⟩) (fun h2 hh=>⟨hh.only.then (yL b q v) hown,hh.has.turn (yL b q v) ((hS h2).apart hM.nd)⟩) (h _ (hM.turn hu (yL b q v) hres))
theorem St.storeRow(hx:o.op= .store ty x y)(hM:St w0 F w L)(hc:(c==2||c==3)=true)(hw:Wt o ops a){n:Nat}(hT:Zu ZA ty=some n)(hev:a.eval x= .pointer (some ⟨b,q,none⟩)){vs:Array Value}(hy:a.eval y= .agg vs){r:Res}(hu:Upd L (b,true,r) (b,true,r.put (over r.known q vs.toList)) L')(hq:q+vs.size≤r.known.length)(h0:0<vs.size)(h1:rowB P ty vs.size=true)(hv0:vs.toList.all (·.oneCell')=true)
  (hS:c=2→Rest L (b,true,r) Lr) (h: ∀ w',St w0 F w' L'→zg P ops K (Held w0 F Lr) l (a.put o.dst undef) w'):zg P ops K (Held w0 F Lr) ((o,c)::l) a w:=by
 have hr:r.holds w.heap[b]? :=hM.holds _ hu.mem
 have hown: ∀ x∈[b],x∈F∨w0.heap.size≤x:=fun x hx=>by
  have e:x=b:=by simpa using hx
  rw[e];exact hM.own _ hu.mem rfl
 obtain⟨rest,t,hb,hput⟩:=Res.whole (q:=q) hr (by omega)
 have hv:vs.all (·.oneCell')=true:=by simpa using hv0
 obtain⟨d,-,-,e3⟩:=YL h1
 have hrun:(execOp a.eval o).run P w= .ok .skip (w.setCells b q vs.toList):=by
  unfold execOp
  simp only[hx,hev,hy,Instr.storeAt,Instr.sureAddr,Sem.run_bind,Sem.run_pure,Result.andThen_ok,run_storeVar_mid w b q ty vs (hb.there q vs.size (by rw[laNz];omega)) e3 hv]
 have hres:=hput (over r.known q vs.toList) (Yo _ _ _) (w.setCells b q vs.toList) (by have:=hb.setCells vs.toList q;rwa [Yz _ _ _ _ (by simpa using hq)] at this)
 exact zM hc hw hrun (.inr ⟨rfl,rfl⟩) (fun h2 hh=>⟨hh.only.then (zY b vs.toList q w) hown,hh.has.turn (zY b vs.toList q w) ((hS h2).apart hM.nd)⟩) (h _ (hM.turn hu (zY b vs.toList q w) hres))
theorem St.make(hM:St w0 F w L)(hc:(c==2||c==3)=true)(hw:Wt o ops a)(v:Nat→Value){ob:Obj}(hy: ∀ w,(execOp a.eval o).run P w= .ok (.value (v w.heap.size)) (w.alloc ob)){r:Res}(hr:r.holds (some ob))
  (h: ∀ w' b,St w0 F w' ((b,true,r)::L)→zg P ops K (Held w0 F Lr) l (a.put o.dst (v b)) w'):zg P ops K (Held w0 F Lr) ((o,c)::l) a w:=
 zM hc hw (hy w) (.inl rfl) (fun _ hh=>⟨hh.only.alloc ob,hh.has.push ob⟩) (h _ _ (hM.push ob hr))
theorem St.box(hx:o.op= .box ty x)(hM:St w0 F w L)(hc:(c==2||c==3)=true)(hw:Wt o ops a){v:Value}(hev:a.eval x=v)
  (h: ∀ w' b,St w0 F w' ((b,true,.cells v.cells.toList ty)::L)→zg P ops K (Held w0 F Lr) l (a.put o.dst (.pointer (some ⟨b,0,none⟩))) w'):zg P ops K (Held w0 F Lr) ((o,c)::l) a w:=by
 refine St.make hM hc hw (fun b=> .pointer (some ⟨b,0,none⟩)) (ob:= .cells v.cells ty) (fun w=> ?_) (by simp[Res.holds]) h
 unfold execOp
 simp only[hx,hev,Instr.box,newVar,newRow,newObj,Sem.run_bind,Sem.run_pure]
 simp[Sem.run]
theorem St.alloc(hx:o.op= .alloc ty)(hM:St w0 F w L)(hc:(c==2||c==3)=true)(hw:Wt o ops a){z:Value}(hz:((P.info? ty).bind (·.zero))=some z)
  (h: ∀ w' b,St w0 F w' ((b,true,.cells z.cells.toList ty)::L)→zg P ops K (Held w0 F Lr) l (a.put o.dst (.pointer (some ⟨b,0,none⟩))) w'):zg P ops K (Held w0 F Lr) ((o,c)::l) a w:=by
 refine St.make hM hc hw (fun b=> .pointer (some ⟨b,0,none⟩)) (ob:= .cells z.cells ty) (fun w=> ?_) (by simp[Res.holds]) h
 cases hq:P.info? ty with
 |none=>rw[hq] at hz;cases hz
 |some i=>
  rw[hq] at hz
  simp only[Option.bind_some] at hz
  unfold execOp
  simp only[hx,Instr.alloc,zeroValue,typeInfo,Sem.run_bind,Sem.run_pure,Result.andThen_ok,run_program,hq,hz,newVar,newRow,newObj]
  simp[Sem.run]
theorem ZQ(w:World)(hx:o.op= .alloc ty){z:Value}(hz:((P.info? ty).bind (·.zero))=some z):(execOp a.eval o).run P w= .ok (.value (.pointer (some ⟨w.heap.size,0,none⟩))) (w.alloc (.cells z.cells ty)):=by
 cases hq:P.info? ty with
 |none=>rw[hq] at hz;cases hz
 |some i=>
  rw[hq] at hz
  simp only[Option.bind_some] at hz
  unfold execOp
  simp only[hx,Instr.alloc,zeroValue,typeInfo,Sem.run_bind,Sem.run_pure,Result.andThen_ok,run_program,hq,hz,newVar,newRow,newObj]
  simp[Sem.run]
theorem St.perm(h:St w0 F w L)(hp:L.Perm L'):St w0 F w L':=
 ⟨h.only,fun x hx=>h.holds x (hp.mem_iff.2 hx),(hp.map (·.1)).nodup_iff.1 h.nd,fun x hx=>h.own x (hp.mem_iff.2 hx)⟩
theorem St.allocs{o':Oper}{c:Nat}{ty':TypeId}{z z':Value}(hx:o.op= .alloc ty)(hx':o'.op= .alloc ty')(hM:St w0 F w L)(hg:o.guard=none)(hg':o'.guard=none)(hd: ∀ d,o.dst=some d→o'.dst≠some d)(hz:((P.info? ty).bind (·.zero))=some z)(hz':((P.info? ty').bind (·.zero))=some z')
  (h: ∀ w' b b',St w0 F w' ((b',true,.cells z'.cells.toList ty')::(b,true,.cells z.cells.toList ty)::L)→zg P ops K (Held w0 F Lr) l ((a.put o.dst (.pointer (some ⟨b,0,none⟩))).put o'.dst (.pointer (some ⟨b',0,none⟩))) w'):zg P ops K (Held w0 F Lr) ((o,4)::(o',c)::l) a w:=by
 refine Xx hg hg' ?_ ?_
 ·unfold Oper.wp
  rw[ZQ w hx hz]
  refine⟨fun hh=>⟨hh.only.alloc _,hh.has.push _⟩, ?_⟩
  rw[ZQ _ hx' hz']
  refine⟨fun hh=>⟨hh.only.alloc _,hh.has.push _⟩,h _ _ _ ((hM.push _ (by simp[Res.holds])).push _ (by simp[Res.holds]))⟩
 ·unfold Oper.wp
  rw[ZQ w hx' hz']
  refine⟨fun hh=>⟨hh.only.alloc _,hh.has.push _⟩, ?_⟩
  rw[ZQ _ hx hz]
  refine⟨fun hh=>⟨hh.only.alloc _,hh.has.push _⟩, ?_⟩
  rw[←Act.put_comm _ _ _ hd]
  exact h _ _ _ (((hM.push (r:= .cells z'.cells.toList ty') _ (by simp[Res.holds])).push (r:= .cells z.cells.toList ty) _ (by simp[Res.holds])).perm (List.Perm.swap _ _ _))
theorem xk(w:World){f:FuncId}{ags:Array Operand}{ts:Array TypeId}(hx:o.op= .call {callee:= .value (.func f),args:=ags,argTypes:=ts})(hf:XS P f=true){args:Array Value}(hargs:ags.map a.eval=args):(execOp a.eval o).run P w= .ok (.enter f args) w:=by
 unfold XS at hf
 cases hq:P.funcs[f]? with
 |none=>rw[hq] at hf;cases hf
 |some fn=>
  rw[hq] at hf
  simp only[Bool.and_eq_true,bne_iff_ne] at hf
  obtain⟨g1,g2⟩:=hf
  have g3:(fn.name== "runtime.NumGoroutine")=false:=by simpa using g2
  have g4:fn.body.isNone=false:=by cases hb:fn.body<;> simp_all
  unfold execOp
  simp only[hx,resolve,Act.eval,Deferred.ofValue,Sem.run_bind,Sem.run_pure,Result.andThen_ok,invoke,callFunc,run_program,hq,g3,g4,Array.append_empty,hargs]
  simp
theorem St.call{f:FuncId}{ags:Array Operand}{ts:Array TypeId}(hx:o.op= .call {callee:= .value (.func f),args:=ags,argTypes:=ts})(hc:(c==2||c==3)=true)(hw:Wt o ops a)  (hf:XS P f=true)
  (h: ∀ R:Ending→World→Prop,Shut (∀ v w',(S w→S w')→zg P ops K S l (a.put o.dst v) w'→R (.returned v) w')→Calls P f (ags.map a.eval) w R):zg P ops K S ((o,c)::l) a w:=
 xq hc hw (xk w hx hf rfl) (h (fun e w'=> ∃ v,e= .returned v∧(S w→S w')∧zg P ops K S l (a.put o.dst v) w') fun v w' h1 h2=>⟨v,rfl,h1,h2⟩)
  fun _ _ ⟨v,h1,h2,h3⟩=>⟨v,h1,fun _=>h2,h3⟩
end
theorem zR{α:Type}(l:List α)(n:Nat)(d:α):l.toArray.getD n d=l.getD n d:=by
 simp only[Array.getD,List.size_toArray,List.getD,List.getElem_toArray]
 split
 ·rename_i h;rw[laRz h];rfl
 ·rename_i h;rw[lcTz (by omega)];rfl
section
variable {P:Program}{K:Act→World→Prop}{a:Act}{w w0:World}{ops:Array Oper}{l:List (Oper×Nat)}{c:Nat}{o:Oper}{F:List Nat}{L Lr:List Ent}{ty t:TypeId}{x y:Operand}{S:World→Prop}
theorem zjR(w:World){x:Operand}{f:FuncId}{first caps:Array Value}{ags:Array Operand}{ts:Array TypeId}(hx:o.op= .call {callee:= .value x,args:=ags,argTypes:=ts})(hv:a.eval x= .func (.func f) first caps)(hf:XS P f=true):(execOp a.eval o).run P w= .ok (.enter f (first++ags.map a.eval++caps)) w:=by
 unfold XS at hf
 cases hq:P.funcs[f]? with
 |none=>rw[hq] at hf;cases hf
 |some fn=>
  rw[hq] at hf
  simp only[Bool.and_eq_true,bne_iff_ne] at hf
  obtain⟨g1,g2⟩:=hf
  have g3:(fn.name== "runtime.NumGoroutine")=false:=by simpa using g2
  have g4:fn.body.isNone=false:=by cases hb:fn.body<;> simp_all
  unfold execOp
  simp only[hx,resolve,hv,Deferred.ofValue,Sem.run_bind,Sem.run_pure,Result.andThen_ok,invoke,callFunc,run_program,hq,g3,g4]
  simp
theorem St.callv{x:Operand}{ags:Array Operand}{ts:Array TypeId}(hx:o.op= .call {callee:= .value x,args:=ags,argTypes:=ts}){f:FuncId}{first caps:Array Value}(hv:a.eval x= .func (.func f) first caps)(hc:(c==2||c==3)=true)(hw:Wt o ops a)(hf:XS P f=true)
  (h: ∀ R:Ending→World→Prop,Shut (∀ v w',(S w→S w')→zg P ops K S l (a.put o.dst v) w'→R (.returned v) w')→Calls P f (first++ags.map a.eval++caps) w R):zg P ops K S ((o,c)::l) a w:=
 xq hc hw (zjR w hx hv hf) (h (fun e w'=> ∃ v,e= .returned v∧(S w→S w')∧zg P ops K S l (a.put o.dst v) w') fun v w' h1 h2=>⟨v,rfl,h1,h2⟩)
  fun _ _ ⟨v,h1,h2,h3⟩=>⟨v,h1,fun _=>h2,h3⟩
theorem znO(x:Array UInt8):(ByteArray.mk x).size=x.size:=rfl
theorem zeW(w:World)(hx:o.op= .binOp .add ty x y t){s u:ByteArray}(e1:a.eval x= .string s)(e2:a.eval y= .string u)(h:s.size+u.size≤9223372036854775807):(execOp a.eval o).run P w= .ok (.value (.string (s++u))) w:=by
 have h1:¬((s.size+u.size:Nat):Int) > IntKind.i64.max:=by
  have:IntKind.i64.max=9223372036854775807:=by decide
  omega
 unfold execOp
 simp only[hx,e1,e2,eqGuard,binOp,Op.stringOp,h1,Bool.not_false,if_true,if_false,Sem.run_bind,Sem.run_pure,Result.andThen_ok]
theorem St.cat(hx:o.op= .binOp .add ty x y t)(hc:(c==0||c==2||c==3)=true)(hw:Wt o ops a){s u:ByteArray}(e1:a.eval x= .string s)(e2:a.eval y= .string u)(hl:s.size+u.size≤9223372036854775807)(h:zg P ops K S l (a.put o.dst (.string (s++u))) w):zg P ops K S ((o,c)::l) a w:=by
 match c with
 |0=>exact Xk hw (fun w=>zeW w hx e1 e2 hl) h
 |1=>cases hc
 |2=>exact zB rfl hw (zeW w hx e1 e2 hl) h
 |3=>exact zB rfl hw (zeW w hx e1 e2 hl) h
 |c+4=>simp at hc
theorem Za(n:Int)(h: -9223372036854775808≤n∧n≤9223372036854775807):IntKind.i64.wrap n=n:=by rw[IntKind.wrap_i64];omega
theorem zmw(w:World)(hx:o.op= .binOp .add ty x y t){n m:Int}(e1:a.eval x= .int .i64 n)(e2:a.eval y= .int .i64 m)(h: -9223372036854775808≤n+m∧n+m≤9223372036854775807):(execOp a.eval o).run P w= .ok (.value (.int .i64 (n+m))) w:=by
 unfold execOp
 simp only[hx,e1,e2,eqGuard,binOp,Op.intArith,Za _ h,ne_eq,not_true_eq_false,Bool.not_false,if_true,if_false,Sem.run_bind,Sem.run_pure,Result.andThen_ok]
theorem St.inc(hx:o.op= .binOp .add ty x y t)(hc:(c==0||c==2||c==3)=true)(hw:Wt o ops a){k:Nat}(e2:a.eval y= .int .i64 1)(e1:a.eval x= .int .i64 (k:Int))(hl:k+1≤9223372036854775807)(h:zg P ops K S l (a.put o.dst (.int .i64 ((k+1:Nat):Int))) w):zg P ops K S ((o,c)::l) a w:=by
 have hr: ∀ w,(execOp a.eval o).run P w= .ok (.value (.int .i64 ((k+1:Nat):Int))) w:=fun w=>by
  have:=zmw (P:=P) (a:=a) (o:=o) w hx e1 e2 (by omega)
  rw[this]
  simp
 match c with
 |0=>exact Xk hw hr h
 |1=>cases hc
 |2=>exact zB rfl hw (hr w) h
 |3=>exact zB rfl hw (hr w) h
 |c+4=>simp at hc
theorem zgb(w:World)(hx:o.op= .move x){v:Value}(e:a.eval x=v):(execOp a.eval o).run P w= .ok (.value v) w:=by
 unfold execOp
 simp only[hx,e,Sem.run_pure]
theorem zcl(w:World)(hx:o.op= .assign x){v:Value}(e:a.eval x=v):(execOp a.eval o).run P w= .ok (.value v) w:=by
 unfold execOp
 simp only[hx,e,Sem.run_pure]
theorem St.soft(hc:(c==0||c==2||c==3)=true)(hw:Wt o ops a){v:Value}(hr: ∀ w,(execOp a.eval o).run P w= .ok (.value v) w)(h:zg P ops K S l (a.put o.dst v) w):zg P ops K S ((o,c)::l) a w:=by
 match c with
 |0=>exact Xk hw hr h
 |1=>cases hc
 |2=>exact zB rfl hw (hr w) h
 |3=>exact zB rfl hw (hr w) h
 |c+4=>simp at hc
theorem St.move(hx:o.op= .move x)(hc:(c==0||c==2||c==3)=true)(hw:Wt o ops a){v:Value}(e:a.eval x=v)(h:zg P ops K S l (a.put o.dst v) w):zg P ops K S ((o,c)::l) a w:=St.soft hc hw (fun w=>zgb w hx e) h
theorem St.copy(hx:o.op= .move x∨o.op= .assign x)(hc:(c==0||c==2||c==3)=true)(hw:Wt o ops a){v:Value}(e:a.eval x=v)(h:zg P ops K S l (a.put o.dst v) w):zg P ops K S ((o,c)::l) a w:=St.soft hc hw (fun w=>hx.elim (fun hx=>zgb w hx e) (fun hx=>zcl w hx e)) h
theorem St.assign(hx:o.op= .assign x)(hc:(c==0||c==2||c==3)=true)(hw:Wt o ops a){v:Value}(e:a.eval x=v)(h:zg P ops K S l (a.put o.dst v) w):zg P ops K S ((o,c)::l) a w:=St.soft hc hw (fun w=>zcl w hx e) h
theorem St.buildSlice{n:Nat}{ps:Array (Nat×Operand)}(hx:o.op= .buildSlice ty n ps)(hM:St w0 F w L)(hc:(c==2||c==3)=true)(hw:Wt o ops a){cells:Array Value}{e:TypeId}(hy: ∀ w:World,(execOp a.eval o).run P w= .ok (.value (.slice (some ⟨w.heap.size,0,none⟩) n n)) (w.alloc (.cells cells e)))
  (h: ∀ w' b,St w0 F w' ((b,true,.cells cells.toList e)::L)→zg P ops K (Held w0 F Lr) l (a.put o.dst (.slice (some ⟨b,0,none⟩) n n)) w'):zg P ops K (Held w0 F Lr) ((o,c)::l) a w:=
 St.make hM hc hw (fun b=> .slice (some ⟨b,0,none⟩) n n) hy (by simp[Res.holds]) h
end
/-! ### Slices of the call's own,that grow -/
def slV:Option (Nat×Nat)→Nat→Value
 |none,_=> .slice none 0 0
 |some (g,cap),n=> .slice (some ⟨g,0,none⟩) n cap
def slL:Option (Nat×Nat)→List Value→TypeId→Nat→List Ent
 |none,_,_,_=>[]
 |some (g,cap),xs,e,size=>[(g,true,.pre xs e (cap*size))]
def SlOK(s:Option (Nat×Nat))(n:Nat)(xs:List Value)(size:Nat):Prop:=
 xs.length=n*size∧match s with
  |none=>n=0
  |some (_,cap)=>n≤cap∧cap≤maxLen
inductive Swap:List Ent→List Ent→List Ent→List Ent→Prop where
 |all {M M':List Ent}:Swap M M M' M'
 |here {M M' R:List Ent}:Swap (M++R) M M' (M' ++R)
 |skip {x:Ent} {L M M' L':List Ent} (h:Swap L M M' L'):Swap (x::L) M M' (x::L')
 |past {N L M M' L':List Ent} (h:Swap L M M' L'):Swap (N++L) M M' (N++L')
theorem Swap.one{x:Ent}{M' R:List Ent}:Swap (x::R) [x] M' (M' ++R):=Swap.here (M:=[x])
theorem Swap.split{L M M' L':List Ent}(h:Swap L M M' L'): ∃ A B,L=A++(M++B)∧L'=A++(M' ++B):=by
 induction h with
 |all=>exact⟨[],[],by simp,by simp⟩
 |here=>exact⟨[],_,rfl,rfl⟩
 | @skip x _ _ _ _ _ ih=>obtain⟨A,B,h1,h2⟩:=ih;exact⟨x::A,B,by rw[h1];rfl,by rw[h2];rfl⟩
 | @past N _ _ _ _ _ ih=>obtain⟨A,B,h1,h2⟩:=ih;exact⟨N++A,B,by rw[h1,lcAz],by rw[h2,lcAz]⟩
def appB(P:Program)(t e:TypeId)(size bytes:Nat):Bool:=
 (match P.underlying t with|some (.slice e')=>e' ==e|_=>false)&&
 (match P.info? e with|some i=>i.size==size&&i.bytes==bytes&&(match i.zero with|some z=>z.cells.size==size|none=>false)|none=>false)&&decide (0<size)
section
variable {P:Program}{K:Act→World→Prop}{a:Act}{w w0:World}{ops:Array Oper}{l:List (Oper×Nat)}{c:Nat}{o:Oper}{F:List Nat}{L Lr:List Ent}{t e:TypeId}{x y:Operand}
theorem xR{size bytes:Nat}(h:appB P t e size bytes=true): ∃ i z,P.underlying t=some (.slice e)∧P.info? e=some i∧i.zero=some z∧i.size=size∧i.bytes=bytes∧z.cells.size=size∧0<size:=by
 unfold appB at h
 simp only[Bool.and_eq_true,decide_eq_true_eq] at h
 obtain⟨⟨h1,h2⟩,h3⟩:=h
 split at h1
 ·rename_i e' hu
  have he:e'=e:=by simpa using h1
  subst he
  split at h2
  ·rename_i i hi
   simp only[Bool.and_eq_true,beq_iff_eq] at h2
   obtain⟨⟨g1,g2⟩,g3⟩:=h2
   split at g3
   ·rename_i z hz
    exact⟨i,z,hu,hi,hz,g1,g2,by simpa using g3,h3⟩
   ·cases g3
  ·cases h2
 ·cases h1
theorem XA{s:Option (Nat×Nat)}{n size:Nat}{xs:List Value}(h: ∀ z∈slL s xs e size,z.2.2.holds w.heap[z.1]?)(hk:SlOK s n xs size):w.ownsRow 0 e size (slV s n) n xs:=by
 obtain⟨hl,hk⟩:=hk
 refine⟨hl, ?_⟩
 match s with
 |none=>exact .inl ⟨rfl,hk⟩
 |some (g,cap)=>
  obtain⟨rest,hb,hn⟩:=h _ (laGz.2 rfl)
  refine .inr ⟨g,cap,(xs++rest).toArray,rfl,Nat.zero_le _,hb,hk.1,hk.2,by simpa using hn, ?_⟩
  rw[←hl]
  simp
theorem zbR{v:Value}{n size:Nat}{xs:List Value}(h:w.ownsRow 0 e size v n xs): ∃ s,v=slV s n∧SlOK s n xs size∧(∀ z∈slL s xs e size,z.2.2.holds w.heap[z.1]?)∧v.ownBlock=s.map (·.1):=by
 obtain⟨hl,h⟩:=h
 rcases h with ⟨rfl,rfl⟩|⟨g,cap,cur,rfl,-,hb,h1,h2,h3,h4⟩
 ·exact⟨none,rfl,⟨hl,rfl⟩,nofun,rfl⟩
 ·refine⟨some (g,cap),rfl,⟨hl,h1,h2⟩,fun z hz=> ?_,rfl⟩
  obtain rfl:=laGz.1 hz
  refine⟨cur.toList.drop (n*size), ?_, ?_⟩
  ·rw[←h4,lcVz];simpa using hb
  ·rw[←h4,lcVz];simpa using h3
theorem St.news(hM:St w0 F w L){b:Nat}{ow:Bool}{r:Res}(hm:(b,ow,r)∈L): ∀ j u,r.known[j]? =some u→w.cell? ((⟨b,0,none⟩:Addr).add j)=some u:=fun j u hu=>by
 rw[Addr.add_mid,Nat.zero_add]
 exact Res.cell (hM.holds _ hm) hu
theorem St.appendCore(hM:St w0 F w L)(hc:(c==2||c==3)=true)(hw:Wt o ops a){s:Option (Nat×Nat)}{n m size:Nat}{xs news:List Value}{L':Option (Nat×Nat)→List Ent}(hL: ∀ s',Swap L (slL s xs e size) (slL s' (xs++news) e size) (L' s')){v':Value}{w':World}
  (hrun0:(execOp a.eval o).run P w= .ok (.value v') w') (ho':w'.ownsRow 0 e size v' (n+m) (xs++news)) (hg:w.grownBy w' (slV s n).ownBlock) (hat:v'.ownBlock=(slV s n).ownBlock∨v'.ownBlock=some w.heap.size)
  (hS:c=2→Lr=[]∨s=none) (h: ∀ w' s',St w0 F w' (L' s')→SlOK s' (n+m) (xs++news) size→(0<n+m→s'≠none)→(s≠none→s'≠none)→zg P ops K (Held w0 F Lr) l (a.put o.dst (slV s' (n+m))) w'):zg P ops K (Held w0 F Lr) ((o,c)::l) a w:=by
 obtain⟨s',rfl,hk',hh',hb'⟩:=zbR ho'
 have hrun:(execOp a.eval o).run P w= .ok (.value (slV s' (n+m))) w':=hrun0
 have hob:(slV s n).ownBlock=s.map (·.1):=by cases s<;> rfl
 have hO:Only ((s.map (·.1)).toList) w w':=⟨hg.os,hg.tape,hg.output,hg.size,fun k hk hn=>hg.block k hk (fun e=>by rw[hob] at e;exact hn (by rw[←e];simp))⟩
 obtain⟨A',B',hA',hL'⟩:=(hL s').split
 have hM':St w0 F w' (L' s'):=by
  have hnd:=hM.nd
  rw[hA'] at hnd
  have hsown: ∀ k,s.map (·.1)=some k→(k∈F∨w0.heap.size≤k)∧k<w.heap.size:=fun k hk=>by
   match s with
   |none=>cases hk
   |some (g,cp)=>
    obtain rfl:g=k:=by simpa using hk
    have hm:(g,true,Res.pre xs e (cp*size))∈L:=by rw[hA'];simp[slL]
    exact⟨hM.own _ hm rfl,hM.lt hm⟩
  have hsnew: ∀ k,s'.map (·.1)=some k→(k∈F∨w0.heap.size≤k)∧(s.map (·.1)=some k∨k=w.heap.size):=fun k hk=>by
   rw[hb',hob] at hat
   rcases hat with h1|h1
   ·rw[h1] at hk;exact⟨(hsown k hk).1,.inl hk⟩
   ·rw[h1] at hk;obtain rfl:w.heap.size=k:=by simpa using hk
    exact⟨.inr hM.only.size,.inr rfl⟩
  have hrestne: ∀ z,z∈A'∨z∈B'→(∀ k,s.map (·.1)=some k→z.1≠k)∧z∈L:=fun z hz=>by
   refine⟨fun k hk=> ?_,by rw[hA'];rcases hz with h|h<;> simp[h]⟩
   match s with
   |none=>cases hk
   |some (g,cp)=>
    obtain rfl:g=k:=by simpa using hk
    simp only[slL,laMz,laDz,lbBz,laSz,laAz,laBz,laKz] at hnd
    obtain⟨-,⟨-,-,h2⟩,h3⟩:=hnd
    rcases hz with h|h
    ·exact fun e=>h3 z.1 ⟨z,h,rfl⟩ g (.inl (.inl rfl)) e
    ·exact fun e=>h2 g (.inl rfl) z.1 ⟨z,h,rfl⟩ e.symm
  refine⟨hM.only.then hO (fun k hk=>(hsown k (by simpa using hk)).1),fun z hz=> ?_, ?_,fun z hz h1=> ?_⟩
  ·rw[hL'] at hz
   rcases laAz.1 hz with hz|hz
   ·obtain⟨hne,hzL⟩:=hrestne z (.inl hz)
    rw[hO.block z.1 (hM.lt hzL) (fun hm=>hne z.1 (by simpa using hm) rfl)]
    exact hM.holds z hzL
   ·rcases laAz.1 hz with hz|hz
    ·exact hh' z hz
    ·obtain⟨hne,hzL⟩:=hrestne z (.inr hz)
     rw[hO.block z.1 (hM.lt hzL) (fun hm=>hne z.1 (by simpa using hm) rfl)]
     exact hM.holds z hzL
  ·rw[hL']
   cases hse:s' with
   |none=>
    simp only[slL,laJz]
    have:(A' ++B').Sublist (A' ++(slL s xs e size++B')):=List.Sublist.append_left (laFz _ _) _
    exact List.Sublist.nodup (this.map _) hnd
   |some gc=>
    obtain⟨g',cp'⟩:=gc
    have hn:=hsnew g' (by rw[hse];rfl)
    have hfree: ∀ z,z∈A'∨z∈B'→z.1≠g':=fun z hz e=>by
     obtain⟨hne,hzL⟩:=hrestne z hz
     rcases hn.2 with h2|h2
     ·exact hne g' h2 e
     ·have:=hM.lt hzL
      omega
    have hAB:((A' ++B').map (·.1)).Nodup:=by
     have:(A' ++B').Sublist (A' ++(slL s xs e size++B')):=List.Sublist.append_left (laFz _ _) _
     exact List.Sublist.nodup (this.map _) hnd
    simp only[laMz,laSz,laKz] at hAB
    simp only[slL,laMz,laDz,lbBz,laSz,laAz,laBz,laKz,laIz,laJz,laTz]
    refine⟨hAB.1,⟨fun ⟨z,hz,e⟩=>hfree z (.inr hz) e,hAB.2.1⟩,fun k hk u hu=> ?_⟩
    obtain⟨z,hz,rfl⟩:=hk
    rcases hu with rfl|hu
    ·exact hfree z (.inl hz)
    ·exact hAB.2.2 z.1 ⟨z,hz,rfl⟩ u hu
  ·rw[hL'] at hz
   rcases laAz.1 hz with hz|hz
   ·exact hM.own z (hrestne z (.inl hz)).2 h1
   ·rcases laAz.1 hz with hz|hz
    ·cases hse:s' with
     |none=>rw[hse] at hz;cases hz
     |some gc=>
      obtain⟨g',cp'⟩:=gc
      rw[hse] at hz
      obtain rfl:=laGz.1 hz
      exact(hsnew g' (by rw[hse];rfl)).1
    ·exact hM.own z (hrestne z (.inr hz)).2 h1
 refine zM hc hw hrun (.inl rfl) (fun h2 hh=> ?_) (h w' s' hM' hk' (fun hp e=> ?_) fun hs0 e=> ?_)
 ·refine⟨hM'.only, ?_⟩
  rcases hS h2 with rfl|rfl
  ·exact nofun
  ·exact hh.has.below (hO.to_below (Nat.le_refl _) (by simp))
 ·subst e
  have:=hk'.2
  simp only at this
  omega
 ·subst e
  rw[hb',hob] at hat
  rcases hat with h1|h1
  ·cases s with
   |none=>exact hs0 rfl
   |some _=>cases h1
  ·cases h1
theorem St.append(hx:o.op= .call {callee:= .builtin .append,args:= #[x,y],argTypes:= #[t,t]})(hM:St w0 F w L)(hc:(c==2||c==3)=true)(hw:Wt o ops a){s:Option (Nat×Nat)}{n:Nat}(hs:a.eval x=slV s n){ad:Addr}{m cap:Nat}(hy:a.eval y= .slice (some ad) m cap){size bytes:Nat}(hE:zgP zfg t=some (e,size,bytes))(hB:appB P t e size bytes=true)
  {xs news:List Value} {L':Option (Nat×Nat)→List Ent} (hL: ∀ s',Swap L (slL s xs e size) (slL s' (xs++news) e size) (L' s')) (hk:SlOK s n xs size) (hl:news.length=m*size) (hnews: ∀ j u,news[j]? =some u→w.cell? (ad.add j)=some u) (h1:news.all (·.oneCell')=true) (h63:n+m≤maxLen) (hby:(n+m)*bytes≤140737488355328)
  (hS:c=2→Lr=[]∨s=none) (h: ∀ w' s',St w0 F w' (L' s')→SlOK s' (n+m) (xs++news) size→(0<n+m→s'≠none)→zg P ops K (Held w0 F Lr) l (a.put o.dst (slV s' (n+m))) w'):zg P ops K (Held w0 F Lr) ((o,c)::l) a w:=by
 obtain⟨i,z,e1,e2,e3,e4,e5,e6,e7⟩:=xR hB
 obtain⟨A,B,hA,-⟩:=(hL none).split
 have hown:w.ownsRow 0 e size (slV s n) n xs:=XA (fun z hz=>hM.holds z (by rw[hA];simp[hz])) hk
 obtain⟨v',w',hr,ho',hg,-,hat⟩:=run_append_own_at (P:=P) w 0 t o.type e i z size bytes e1 e2 e3 e4 e5 e6 e7 (slV s n) n xs hown ad m cap news hl hnews (by simpa using h1) h63 hby (Nat.zero_le _)
 refine St.appendCore (v':=v') (w':=w') hM hc hw hL ?_ ho' hg hat hS fun w' s' a1 a2 a3 _=>h w' s' a1 a2 a3
 unfold execOp
 simp only[hx,resolve,invoke,builtin,Sem.run_bind,Sem.run_pure,Result.andThen_ok,lbOz,laDz,lbBz,hs,hy,hr]
theorem St.appendAny(hx:o.op= .call {callee:= .builtin .append,args:= #[x,y],argTypes:= #[t,t]})(hM:St w0 F w L)(hc:(c==2||c==3)=true)(hw:Wt o ops a){s:Option (Nat×Nat)}{n:Nat}(hs:a.eval x=slV s n){na:Option Addr}{m cap:Nat}(hy:a.eval y= .slice na m cap){size bytes:Nat}(hE:zgP zfg t=some (e,size,bytes))(hB:appB P t e size bytes=true)
  {xs news:List Value} {L':Option (Nat×Nat)→List Ent} (hL: ∀ s',Swap L (slL s xs e size) (slL s' (xs++news) e size) (L' s')) (hk:SlOK s n xs size) (hnone:na=none→m=0∧cap=0) (hl:news.length=m*size) (hnews: ∀ ad,na=some ad→ ∀ j u,news[j]? =some u→w.cell? (ad.add j)=some u) (h1:news.all (·.oneCell')=true) (h63:n+m≤maxLen) (hby:(n+m)*bytes≤140737488355328)
  (hS:c=2→Lr=[]∨s=none) (h: ∀ w' s',St w0 F w' (L' s')→SlOK s' (n+m) (xs++news) size→(0<n+m→s'≠none)→(s≠none→s'≠none)→zg P ops K (Held w0 F Lr) l (a.put o.dst (slV s' (n+m))) w'):zg P ops K (Held w0 F Lr) ((o,c)::l) a w:=by
 obtain⟨i,z,e1,e2,e3,e4,e5,e6,e7⟩:=xR hB
 obtain⟨A,B,hA,-⟩:=(hL none).split
 have hown:w.ownsRow 0 e size (slV s n) n xs:=XA (fun z hz=>hM.holds z (by rw[hA];simp[hz])) hk
 cases na with
 |some ad=>
  obtain⟨v',w',hr,ho',hg,-,hat⟩:=run_append_own_at (P:=P) w 0 t o.type e i z size bytes e1 e2 e3 e4 e5 e6 e7 (slV s n) n xs hown ad m cap news hl (hnews ad rfl) (by simpa using h1) h63 hby (Nat.zero_le _)
  refine St.appendCore (v':=v') (w':=w') hM hc hw hL ?_ ho' hg hat hS h
  unfold execOp
  simp only[hx,resolve,invoke,builtin,Sem.run_bind,Sem.run_pure,Result.andThen_ok,lbOz,laDz,lbBz,hs,hy,hr]
 |none=>
  obtain⟨rfl,rfl⟩:=hnone rfl
  obtain rfl:news=[]:=lbWz.1 (by omega)
  have hr:=run_append_owned_none (P:=P) (w:=w) 0 t o.type e i size e1 e2 (slV s n) n xs hown
  refine St.appendCore (v':=slV s n) (w':=w) hM hc hw hL ?_ (by simpa using hown) ⟨rfl,rfl,rfl,Nat.le_refl _,fun _ _ _=>rfl⟩ (.inl rfl) hS h
  unfold execOp
  simp only[hx,resolve,invoke,builtin,Sem.run_bind,Sem.run_pure,Result.andThen_ok,lbOz,laDz,lbBz,hs,hy,hr]
theorem St.weaken{b:Nat}{ow:Bool}{r r':Res}(hM:St w0 F w L){L':List Ent}(hu:Upd L (b,ow,r) (b,ow,r') L')(hr:r.holds w.heap[b]? →r'.holds w.heap[b]?):St w0 F w L':=by
 refine⟨hM.only,fun x hx=> ?_, ?_,fun x hx hx1=> ?_⟩
 ·rcases hu.of_mem hx with rfl|hx
  ·exact hr (hM.holds _ hu.mem)
  ·exact hM.holds x hx
 ·rw[hu.keys rfl];exact hM.nd
 ·rcases hu.of_mem hx with rfl|hx
  ·exact hM.own (b,ow,r) hu.mem hx1
  ·exact hM.own x hx hx1
theorem Res.toPre{b:Nat}{cs:List Value}{ty:TypeId}{n:Nat}(hn:n=cs.length)(h:(Res.cells cs ty).holds w.heap[b]?):(Res.pre cs ty n).holds w.heap[b]? :=⟨[],by simpa[Res.holds] using h,by simp[hn]⟩
end
/-! ### Code -/
section
variable {P:Program}{Q:Exit→Act→World→Prop}{a:Act}{w w0:World}{x y:Code}{F:List Nat}{L:List Ent}
theorem Zq{n:Nat}(h: ∀ K:Act→World→Prop,Shut (∀ a w,Code.rounds P x Q n a w→K a w)→x.wp P (Exit.then K Q) a w):Code.rounds P x Q (n+1) a w:=h _ fun _ _ h=>h
theorem ZI(h: ∀ K:Act→World→Prop,Shut (∀ a w,y.wp P Q a w→K a w)→x.wp P (Exit.then K Q) a w):(Code.seq x y).wp P Q a w:=wp_seq (h _ fun _ _ h=>h)
theorem zoD{id:Nat}{os:List Oper}(hM:St w0 F w L)(h: ∀ K:Act→World→Prop,Shut (∀ a w,Q .normal a w→K a w)→zg P os.toArray K (Held w0 F []) (XL os) a w):(Code.region id os.toArray false).wp P Q a w:=zbz _ h
theorem zdh{id:Nat}{os:List Oper}{Lr:List Ent}(hM:St w0 F w L)(hs:Sub Lr L)(fl:List Nat)(l:List (Nat×Nat))(hm:P.follows .mixedOrders=true)(hB:((Region.noSelect os.toArray&&(l.length==os.toArray.size&&xE .any os.toArray fl l (Array.replicate os.toArray.size false) true))&&l.all fun x=>decide (x.1<os.length))=true)
  (h: ∀ w,St w0 F w L→ ∀ K:Act→World→Prop,Shut (∀ a w,Q .normal a w→K a w)→zg P os.toArray K (Held w0 F Lr) (Xb os l) a w):(Code.region id os.toArray true).wp P Q a w:=
 zav (Held w0 F Lr) fl l hm hB (hM.held hs.mem).drew (h _ hM.drew)
end
/-! ### What is handed back -/
inductive Outs (P:Program) (L:List Ent) (tmps:Array Value):List ResultVar→List Value→Prop where
 |nil:Outs P L tmps [] []
 |tmp {t:Tmp} {v:Value} {rs:List ResultVar} {vs:List Value} (h:tmps.getD t undef=v) (r:Outs P L tmps rs vs):Outs P L tmps (.tmp t::rs) (v::vs)
 |one {t:Tmp} {ty:TypeId} {b q:Nat} {ow:Bool} {x:Res} {v:Value} {rs:List ResultVar} {vs:List Value} (hT:Zu ZA ty=none) (h:tmps.getD t undef= .pointer (some ⟨b,q,none⟩)) (hm:(b,ow,x)∈L) (hv:x.known[q]? =some v) (h1:oneB P ty=true) (r:Outs P L tmps rs vs):Outs P L tmps (.cell t ty::rs) (v::vs)
 |row {t:Tmp} {ty ty':TypeId} {b:Nat} {ow:Bool} {cs:List Value} {rs:List ResultVar} {vs:List Value} {n:Nat} (hT:Zu ZA ty=some n) (h:tmps.getD t undef= .pointer (some ⟨b,0,none⟩)) (hm:(b,ow,.cells cs ty')∈L) (h1:rowB P ty cs.length=true) (r:Outs P L tmps rs vs):Outs P L tmps (.cell t ty::rs) (.agg cs.toArray::vs)
def tup:List Value→Value
 |[v]=>v
 |vs=> .tuple vs.toArray
section
variable {P:Program}{w w0:World}{F:List Nat}{L:List Ent}{a:Act}{fn:Func}{R:Ending→World→Prop}{rs:List ResultVar}{vs:List Value}
def zjK(tmps:Array Value):ResultVar→Sem Value
 | .tmp t=>Pure.pure (tmps.getD t undef)
 | .cell a t=>do loadVar t (←asAddr (tmps.getD a undef))
theorem ziJ(fn:Func)(tmps:Array Value):results fn tmps=(do
  let vs ←fn.results.mapM (zjK tmps)
  Pure.pure (if h:vs.size=1 then vs[0] else .tuple vs)):=by
 unfold results
 congr 2
theorem zlK{tmps:Array Value}(hM:St w0 F w L)(h:Outs P L tmps rs vs):(rs.mapM (m:=Sem) (zjK tmps)).run P w= .ok vs w:=by
 induction h with
 |nil=>rfl
 | @tmp t v rs vs h r ih=>
  rw[List.mapM_cons,Sem.run_bind]
  simp only[zjK,h,Sem.run_pure,Result.andThen_ok,Sem.run_bind,ih]
 | @one t ty b q ow x v rs vs hT h hm hv h1 r ih=>
  have hA:(asAddr (tmps.getD t undef)).run P w= .ok ⟨b,q,none⟩ w:=by rw[h];rfl
  rw[List.mapM_cons,Sem.run_bind]
  simp only[zjK,hA,Sem.run_pure,Result.andThen_ok,Sem.run_bind,ih,YN h1 (Res.cell (hM.holds _ hm) hv)]
 | @row t ty ty' b ow cs rs vs n hT h hm h1 r ih=>
  obtain⟨d,e1,e2,e3⟩:=YL h1
  have hA:(asAddr (tmps.getD t undef)).run P w= .ok ⟨b,0,none⟩ w:=by rw[h];rfl
  rw[List.mapM_cons,Sem.run_bind]
  simp only[zjK,hA,Sem.run_pure,Result.andThen_ok,Sem.run_bind,ih,run_loadVar_mid w b 0 ty cs d (hM.blk hm).range e1 e2 e3]
theorem zaX(hM:St w0 F w L)(hr:fn.results=rs.toArray)(h:Outs P L a.tmps rs vs):(results fn a.tmps).run P w= .ok (tup vs) w:=by
 rw[ziJ,hr,Sem.run_bind,List.mapM_toArray,Sem.run_map,zlK hM h]
 match vs with
 |[]=>rfl
 |[v]=>rfl
 |v::u::r=>rfl
theorem St.ret(hM:St w0 F w L)(hr:fn.results=rs.toArray)(h:Outs P L a.tmps rs vs)(hd:a.defers=[])(hR:R (.returned (tup vs)) w):bodyPost P fn R .ret a w:=⟨hd,_,zaX hM hr h,hR⟩
theorem St.fin(hM:St w0 F w L)(hr:fn.results=rs.toArray)(h:Outs P L a.tmps rs vs)(hd:a.defers=[])(hR:R (.returned (tup vs)) w):bodyPost P fn R .normal a w:=⟨hd,_,zaX hM hr h,hR⟩
end
/-! ### Calls that turn what is known -/
section
variable {w0 w w':World}{F G:List Nat}{L L' M:List Ent}{b:Nat}
inductive Del:List Ent→Ent→List Ent→Prop where
 |head {x:Ent} {L:List Ent}:Del (x::L) x L
 |tail {x y:Ent} {L L':List Ent} (h:Del L x L'):Del (y::L) x (y::L')
inductive View:List Ent→List Ent→Prop where
 |nil {L:List Ent}:View [] L
 |cons {b:Nat} {o:Bool} {r:Res} {L L' M:List Ent} (h:Del L (b,o,r) L') (t:View M L'):View ((b,false,r)::M) L
theorem Del.mem{L L':List Ent}{x:Ent}(h:Del L x L'):x∈L∧(∀ y∈L',y∈L)∧((L.map (·.1)).Nodup→(L'.map (·.1)).Nodup∧ ∀ y∈L',y.1≠x.1):=by
 induction h with
 | @head x L=>
  refine⟨.head _,fun y h=> .tail _ h,fun hnd=> ?_⟩
  simp only[laDz,laTz] at hnd
  exact⟨hnd.2,fun y hy e=>hnd.1 (e▸laLz hy)⟩
 | @tail x y L L' h ih=>
  obtain⟨h1,h2,h3⟩:=ih
  refine⟨.tail _ h1,fun z hz=> ?_,fun hnd=> ?_⟩
  ·rcases laBz.1 hz with rfl|hz
   ·exact .head _
   ·exact .tail _ (h2 z hz)
  ·simp only[laDz,laTz] at hnd
   obtain⟨g1,g2⟩:=h3 hnd.2
   refine⟨?_,fun z hz=> ?_⟩
   ·simp only[laDz,laTz]
    refine⟨fun hm=> ?_,g1⟩
    obtain⟨u,hu,e⟩:=laKz.1 hm
    exact hnd.1 (e▸laLz (h2 u hu))
   ·rcases laBz.1 hz with rfl|hz
    ·exact fun e=>hnd.1 (e▸laLz h1)
    ·exact g2 z hz
theorem View.spec{M L:List Ent}(h:View M L)(hnd:(L.map (·.1)).Nodup):(∀ x∈M,x.2.1=false∧ ∃ o,(x.1,o,x.2.2)∈L)∧(M.map (·.1)).Nodup:=by
 induction h with
 |nil=>exact⟨nofun,lcHz⟩
 | @cons b o r L L' M hd _ ih=>
  obtain⟨h1,h2,h3⟩:=hd.mem
  obtain⟨g1,g2⟩:=h3 hnd
  obtain⟨i1,i2⟩:=ih g1
  refine⟨fun x hx=> ?_, ?_⟩
  ·rcases laBz.1 hx with rfl|hx
   ·exact⟨rfl,o,h1⟩
   ·obtain⟨j1,o',j2⟩:=i1 x hx
    exact⟨j1,o',h2 _ j2⟩
  ·simp only[laDz,laTz]
   refine⟨fun hm=> ?_,i2⟩
   obtain⟨u,hu,e⟩:=laKz.1 hm
   obtain⟨-,o',j2⟩:=i1 u hu
   exact g2 _ j2 e
theorem St.to_below(h:St w0 [] w L):Below w0.heap.size w0 w:=h.only.to_below (Nat.le_refl _) (by simp)
end
section
variable {P:Program}{a:Act}{w:World}{ops:Array Oper}{l:List (Oper×Nat)}{o:Oper}{S:World→Prop}{K:Act→World→Prop}
theorem St.call3{f:FuncId}{ags:Array Operand}{ts:Array TypeId}(hx:o.op= .call {callee:= .value (.func f),args:=ags,argTypes:=ts})(hw:Wt o ops a)(hf:XS P f=true)
  (h: ∀ R:Ending→World→Prop,Shut (∀ v w',zg P ops K S l (a.put o.dst v) w'→R (.returned v) w')→Calls P f (ags.map a.eval) w R):zg P ops K S ((o,3)::l) a w:=
 xq rfl hw (xk w hx hf rfl) (h (fun e w'=> ∃ v,e= .returned v∧zg P ops K S l (a.put o.dst v) w') fun v w' h1=>⟨v,rfl,h1⟩)
  fun _ _ ⟨v,h1,h2⟩=>⟨v,h1,(fun e=>by cases e),h2⟩
end
def arrB(P:Program)(t:TypeId)(n:Nat):Bool:=match P.underlying t with|some (.array m e)=>m==n&&oneB P e|_=>false
section
variable {P:Program}{K:Act→World→Prop}{a:Act}{w:World}{ops:Array Oper}{l:List (Oper×Nat)}{c:Nat}{o:Oper}{ty:TypeId}{x y:Operand}{S:World→Prop}
theorem zio(w:World)(hx:o.op= .index ty x y){cs:Array Value}{k:Nat}(e1:a.eval x= .agg cs)(e2:a.eval y= .int .i64 (k:Int))(hB:arrB P ty cs.size=true){v:Value}(hv:cs[k]? =some v):(execOp a.eval o).run P w= .ok (.value v) w:=by
 have hk:k<cs.size:=(Array.getElem?_eq_some_iff.1 hv).1
 unfold arrB at hB
 split at hB
 ·rename_i m e hu
  simp only[Bool.and_eq_true,beq_iff_eq] at hB
  obtain⟨rfl,hB⟩:=hB
  obtain⟨d,u1,u2,u3⟩:=xY hB
  have hagg:(isAgg e).run P w= .ok false w:=by
   unfold isAgg
   rw[Sem.run_bind,run_underlying u1 w]
   cases d<;> simp_all
  have hsz:(sizeOf e).run P w= .ok 1 w:=by
   cases hq:P.info? e with
   |none=>simp[hq] at u3
   |some i=>
    have hs:i.size=1:=by simpa[hq] using u3
    simp[sizeOf,typeInfo,hq,hs]
  have hin:(0:Int)≤(k:Int)∧(k:Int)<(cs.size:Int):=⟨Int.natCast_nonneg k,by omega⟩
  have hr:(Instr.index ty (.agg cs) (.int .i64 (k:Int))).run P w= .ok v w:=by
   unfold Instr.index
   simp only[asIntOf,Sem.run_bind,Sem.run_pure,Result.andThen_ok,run_underlying hu w,hin,and_self,if_true,hsz,part,hagg,Bool.false_eq_true,if_false,Int.toNat_natCast,Nat.mul_one,hv]
  unfold execOp
  simp only[hx,e1,e2,Sem.run_bind,hr,Result.andThen_ok,Sem.run_pure]
 ·cases hB
theorem St.index(hx:o.op= .index ty x y)(hc:(c==0||c==2||c==3)=true)(hw:Wt o ops a){cs:Array Value}(e1:a.eval x= .agg cs){k:Nat}(e2:a.eval y= .int .i64 (k:Int))(hB:arrB P ty cs.size=true){v:Value}(hv:cs[k]? =some v)(h:zg P ops K S l (a.put o.dst v) w):zg P ops K S ((o,c)::l) a w:=
 St.soft hc hw (fun w=>zio w hx e1 e2 hB hv) h
theorem St.index0(hx:o.op= .index ty x y)(hc:(c==0||c==2||c==3)=true)(hw:Wt o ops a){cs:Array Value}(e1:a.eval x= .agg cs){i:Int}(e2:a.eval y= .int .i64 i){k:Nat}(hi:i=(k:Int))(hB:arrB P ty cs.size=true){v:Value}(hv:cs[k]? =some v)(h:zg P ops K S l (a.put o.dst v) w):zg P ops K S ((o,c)::l) a w:=by
 subst hi
 exact St.index hx hc hw e1 e2 hB hv h
end
theorem yR{w0 w:World}{F:List Nat}{b q:Nat}{vs:List Value}(h:Only F w0 w)(hc:w0.rangeAt b q vs)(hF:b∉F):w.rangeAt b q vs:=fun j v hj=>yi h (hc j v hj) hF
end
section
open Go.RowKit
structure Hd (p:Prop):Prop where out:p
theorem qea{p:Prop}(h:p:=by first|(simp only[Act.put,qSa,qSz,qSs];exact rfl)|exact rfl):p:=h
theorem qev{p:Prop}(h:p:=by first|(simp only[Res.put,Res.known,Act.eval,Value.cells,zR,qGz,qGs,lcRz,qSz,qSs,over,Nat.reduceAdd];exact rfl)|exact rfl):p:=h
theorem qcu{p:Prop}(h:p:=by first|(simp only[Res.known,ldSz,ldBz,ldTz,List.take_zero];exact rfl)|exact rfl):p:=h
theorem qhs{p:Prop}(h:p:=by first|(intro h;cases h;done)|(intro _;repeat(first|exact Rest.here (Sub.all _)|exact Rest.here Sub.nil|apply Rest.take|apply Rest.skip))):p:=h
theorem qou{p:Prop}(h:p:=by repeat(first|exact Outs.nil|apply Outs.tmp rfl|(apply Outs.row rfl rfl (by repeat constructor) (by kernel_rfl))|(apply Outs.one rfl rfl (by repeat constructor) (by rfl) (by kernel_rfl)))):p:=h
theorem qp:(∀ (a:Act) (d:Tmp) (v:Value),a.put (some d) v={a with tmps:=a.tmps.setIfInBounds d v})∧(∀ (a:Act) (v:Value),a.put none v=a)∧(∀ (l:List Value) (i:Nat) (v:Value),l.toArray.setIfInBounds i v=(l.set i v).toArray)∧(∀ (x v:Value) (l:List Value),(x::l).set 0 v=v::l)∧ ∀ (x v:Value) (l:List Value) (i:Nat),(x::l).set (i+1) v=x::l.set i v:=
 ⟨fun _ _ _=>rfl,fun _ _=>rfl,fun _ _ _=>qSa ..,fun _ _ _=>rfl,fun _ _ _ _=>rfl⟩
theorem qm{p:Prop}(h:p:=by repeat constructor):p:=h
def zfe:List (Nat×Value):=[(3,.int .i64 0),(31,.agg #[.int .i64 0,.int .i64 0,.string ⟨#[]⟩,.slice none 0 0]),(34,.agg #[.int .i64 0,.string ⟨#[]⟩,.string ⟨#[]⟩,.int .i64 0,.int .i64 0,.int .i64 0,.string ⟨#[]⟩,.int .i64 0,.int .i64 0]),(36,.agg #[.int .i64 0,.bool false,.int .i64 0,.string ⟨#[]⟩,.string ⟨#[]⟩,.int .i64 0,.int .i64 0,.int .i64 0,.string ⟨#[]⟩,.int .i64 0,.int .i64 0]),(47,.slice none 0 0),(60,.agg #[.int .i64 0,.bool false,.int .i64 0,.string ⟨#[]⟩,.string ⟨#[]⟩,.int .i64 0,.int .i64 0,.int .i64 0,.string ⟨#[]⟩,.int .i64 0,.int .i64 0,.bool false,.int .i64 0]),(90,.agg #[.int .i64 0,.int .i64 0,.int .i64 0,.int .i64 0,.string ⟨#[]⟩,.string ⟨#[]⟩,.int .i64 0,.int .i64 0,.int .i64 0,.string ⟨#[]⟩,.int .i64 0,.int .i64 0]),(112,.agg #[.string ⟨#[]⟩,.bool false,.string ⟨#[]⟩]),(117,.agg #[.int .i64 0,.int .i64 0,.int .i64 0,.int .i64 0,.int .i64 0,.int .i64 0,.int .i64 0,.int .i64 0,.int .i64 0]),(119,.map none),(124,.agg #[.int .i64 0,.bool false,.int .i64 0,.int .i64 0,.string ⟨#[]⟩,.slice none 0 0]),(125,.nilFunc),(127,.agg #[.string ⟨#[]⟩,.int .i64 0]),(138,.agg #[.nilFunc]),(166,.agg #[.bool false,.int .i64 0,.int .i64 0,.string ⟨#[]⟩,.map none]),(170,.agg #[.int .i64 0,.string ⟨#[]⟩]),(256,.agg #[.pointer none,.slice none 0 0]),(270,.int .u64 0),(305,.agg #[.int .u8 0,.int .u8 0])]
def zfW:List (Nat×Value)→Nat→Option Value
 |[],_=>none
 |(x,s)::r,n=>bif Nat.beq x n then some s else zfW r n
def znp:List (Nat×Bool×List Nat×List (Nat×Nat)):=
 [(5016,true,[3,12],[(0,0),(1,0),(2,0),(3,1),(4,0),(5,0),(6,0),(7,0),(9,0),(10,0),(11,0),(12,1),(13,0),(8,2),(14,2),(15,3)]),
 (1003010,true,[2],[(0,0),(1,0),(2,1),(3,2),(4,2),(5,2),(6,2),(7,3),(8,3),(9,3)]),
 (1003012,true,[3,8],[(0,0),(1,0),(2,0),(3,1),(5,0),(6,0),(7,0),(8,1),(9,0),(4,2),(10,2),(11,3)]),
 (1004013,true,[7,9],[(0,2),(1,2),(2,2),(3,2),(4,0),(5,0),(6,0),(7,1),(9,1),(8,2),(10,2),(11,2),(12,2)]),
 (1010009,true,[3],[(0,0),(1,0),(2,0),(3,1),(4,0),(5,2),(6,2),(7,2),(8,3)]),
 (1011016,true,[7],[(0,0),(1,0),(2,0),(3,0),(4,0),(5,0),(6,0),(7,1),(8,0),(9,2),(10,2),(11,2),(12,3),(13,3),(14,3),(15,3)]),
 (1012016,true,[7],[(0,0),(1,0),(2,0),(3,0),(4,0),(5,0),(6,0),(7,1),(8,0),(9,2),(10,2),(11,2),(12,3),(13,3),(14,3),(15,3)]),
 (1013008,true,[3],[(0,0),(1,0),(2,0),(3,1),(4,2),(5,2),(6,2),(7,3)]),
 (2012010,true,[2],[(0,0),(1,0),(2,1),(3,2),(4,2),(5,2),(6,2),(7,3),(8,3),(9,3)]),
 (2017006,true,[3],[(0,0),(1,0),(2,0),(3,1),(4,2),(5,3)]),
 (2023014,true,[3],[(0,0),(1,0),(2,0),(3,1),(4,2),(5,2),(6,2),(7,2),(8,2),(9,2),(10,3),(11,3),(12,3),(13,3)]),
 (3005012,true,[3,8],[(0,0),(1,0),(2,0),(3,1),(5,0),(6,0),(7,0),(8,1),(4,2),(9,2),(10,2),(11,3)]),
 (3006013,true,[3,8],[(0,0),(1,0),(2,0),(3,1),(5,0),(6,0),(7,0),(8,1),(4,2),(9,2),(10,2),(11,2),(12,3)]),
 (3006017,true,[3,8,12],[(0,0),(1,0),(2,0),(3,1),(5,0),(6,0),(7,0),(8,1),(9,0),(10,0),(11,0),(12,1),(4,2),(13,2),(14,2),(15,2),(16,3)]),
 (3007016,true,[7,11],[(0,0),(1,2),(2,2),(3,2),(4,2),(5,2),(6,0),(7,1),(8,0),(9,0),(10,0),(11,1),(12,2),(13,2),(14,2),(15,2)]),
 (3010012,true,[3,7],[(0,0),(1,0),(2,0),(3,1),(4,0),(5,0),(6,0),(7,1),(8,2),(9,3),(10,2),(11,3)]),
 (3010016,true,[3,7,11],[(0,0),(1,0),(2,0),(3,1),(4,0),(5,0),(6,0),(7,1),(8,0),(9,0),(10,0),(11,1),(12,2),(13,3),(14,2),(15,3)]),
 (3012012,true,[3],[(0,0),(1,0),(2,0),(3,1),(4,2),(5,2),(6,3),(7,2),(8,0),(9,0),(10,3),(11,3)]),
 (3014016,true,[7],[(0,0),(1,0),(2,0),(3,0),(4,0),(5,0),(6,0),(7,1),(8,0),(9,2),(10,2),(11,2),(12,3),(13,3),(14,3),(15,3)]),
 (3017010,true,[3,5],[(0,0),(1,0),(2,0),(3,1),(4,0),(5,1),(6,2),(7,2),(8,2),(9,3)]),
 (3017020,true,[10],[(0,0),(1,0),(2,2),(3,2),(4,2),(5,0),(6,0),(7,0),(8,0),(9,0),(10,1),(11,0),(12,0),(13,2),(14,2),(15,2),(16,2),(17,2),(18,3),(19,2)]),
 (3021010,true,[2],[(0,0),(1,0),(2,1),(3,2),(4,2),(5,2),(6,2),(7,3),(8,3),(9,3)]),
 (3023007,true,[3],[(0,0),(1,0),(2,0),(3,1),(4,0),(5,2),(6,3)]),
 (3029015,true,[7],[(0,0),(1,2),(2,2),(3,2),(4,0),(5,0),(6,0),(7,1),(8,0),(9,2),(10,2),(11,2),(12,3),(13,2),(14,2)]),
 (3030014,true,[7],[(0,0),(1,2),(2,2),(3,2),(4,0),(5,0),(6,0),(7,1),(8,0),(9,2),(10,2),(11,2),(12,3),(13,2)]),
 (4010009,false,[],[(0,0),(1,0),(2,0),(3,0),(4,0),(5,0),(6,0),(7,3),(8,3)]),
 (4015009,true,[3,5],[(0,0),(1,0),(2,0),(3,1),(4,0),(5,1),(6,4),(7,4),(8,3)]),
 (4016015,true,[7],[(0,0),(1,2),(2,2),(3,2),(4,0),(5,0),(6,0),(7,1),(8,0),(9,2),(10,2),(11,2),(12,2),(13,3),(14,2)]),
 (4018015,true,[3,8],[(0,0),(1,0),(2,0),(3,1),(4,0),(5,0),(6,0),(7,0),(8,1),(9,0),(10,0),(11,0),(12,0),(13,0),(14,2)]),
 (4019012,true,[4],[(0,0),(1,0),(2,0),(3,0),(4,1),(5,2),(6,2),(7,2),(8,2),(9,3),(10,2),(11,2)]),
 (4025013,true,[3],[(0,0),(1,0),(2,0),(3,1),(4,0),(5,2),(6,2),(7,2),(8,2),(9,2),(10,2),(11,3),(12,3)]),
 (5015011,true,[3,7],[(0,0),(1,0),(2,0),(3,1),(4,0),(5,0),(6,0),(7,1),(8,2),(9,2),(10,2)]),
 (5017015,true,[3],[(0,0),(1,0),(2,0),(3,1),(4,0),(5,0),(6,2),(7,2),(8,2),(9,3),(10,2),(11,0),(12,0),(13,3),(14,3)]),
 (5017016,true,[7],[(0,0),(1,2),(2,2),(3,2),(4,0),(5,0),(6,0),(7,1),(8,0),(9,2),(10,2),(11,2),(12,2),(13,3),(14,2),(15,2)]),
 (5024008,true,[3],[(0,0),(1,0),(2,0),(3,1),(4,0),(5,2),(6,3),(7,3)]),
 (5024009,true,[3,5],[(0,0),(1,0),(2,0),(3,1),(4,0),(5,1),(6,2),(7,2),(8,3)]),
 (5025011,true,[6],[(0,0),(1,0),(2,0),(3,0),(4,0),(5,0),(6,1),(7,0),(8,2),(9,3),(10,3)]),
 (5039014,true,[5],[(0,0),(1,0),(2,0),(3,0),(4,0),(5,1),(6,0),(7,0),(8,2),(9,2),(10,2),(11,2),(12,3),(13,2)]),
 (5043013,true,[3,7],[(0,0),(1,0),(2,0),(3,1),(4,0),(5,0),(6,0),(7,1),(8,2),(9,2),(10,2),(11,2),(12,2)]),
 (5046014,true,[7],[(0,0),(1,2),(2,2),(3,2),(4,0),(5,0),(6,0),(7,1),(8,0),(9,2),(10,2),(11,2),(12,3),(13,2)]),
 (5046015,true,[7],[(0,0),(1,2),(2,2),(3,2),(4,0),(5,0),(6,0),(7,1),(8,0),(9,2),(10,2),(11,2),(12,3),(13,2),(14,2)]),
 (6016009,true,[3],[(0,0),(1,0),(2,0),(3,1),(4,0),(5,2),(6,2),(7,2),(8,3)]),
 (6016019,true,[8,12],[(0,0),(1,2),(2,2),(3,2),(4,2),(5,0),(6,0),(7,0),(8,1),(9,0),(10,0),(11,0),(12,1),(13,2),(14,2),(15,2),(16,2),(17,2),(18,2)]),
 (6018009,true,[3,4,5],[(0,0),(1,0),(2,0),(3,1),(4,1),(5,1),(6,4),(7,4),(8,3)]),
 (6023009,true,[3],[(0,0),(1,0),(2,0),(3,1),(4,0),(5,2),(6,2),(7,2),(8,3)]),
 (6026013,true,[3,5],[(0,0),(1,0),(2,0),(3,1),(4,0),(5,1),(6,2),(7,2),(8,3),(9,2),(10,0),(11,2),(12,3)]),
 (6027007,false,[],[(0,0),(1,0),(2,0),(3,0),(4,3),(5,3),(6,3)]),
 (6030011,true,[3],[(0,0),(1,0),(2,0),(3,1),(4,2),(5,2),(6,2),(7,3),(8,3),(9,3),(10,3)]),
 (6031011,true,[3],[(0,0),(1,0),(2,0),(3,1),(4,2),(5,2),(6,2),(7,2),(8,3),(9,2),(10,2)]),
 (6032010,true,[3,5],[(0,0),(1,0),(2,0),(3,1),(4,0),(5,1),(6,2),(7,2),(8,3),(9,2)]),
 (6033018,true,[9],[(0,0),(1,0),(2,0),(3,0),(4,0),(5,0),(6,0),(7,0),(8,0),(9,1),(10,0),(11,2),(12,2),(13,2),(14,3),(15,3),(16,3),(17,3)]),
 (6048011,true,[1,4,6],[(0,0),(1,1),(2,0),(3,0),(4,1),(5,0),(6,1),(7,2),(8,2),(9,2),(10,2)]),
 (6048018,true,[4,8,12],[(0,0),(1,0),(2,0),(3,0),(4,1),(5,0),(6,0),(7,0),(8,1),(9,0),(10,0),(11,0),(12,1),(13,2),(14,2),(15,2),(16,2),(17,2)]),
 (6053024,true,[13],[(0,0),(1,0),(2,0),(3,0),(4,0),(5,0),(6,0),(7,0),(8,0),(9,0),(10,0),(11,0),(12,0),(13,1),(14,0),(15,0),(16,2),(17,2),(18,2),(19,2),(20,3),(21,3),(22,3),(23,3)]),
 (7029009,true,[3],[(0,0),(1,0),(2,0),(3,1),(4,0),(5,2),(6,2),(7,2),(8,3)]),
 (7032007,true,[3],[(0,0),(1,0),(2,0),(3,1),(4,0),(5,2),(6,3)]),
 (7034009,false,[],[(0,0),(1,0),(2,0),(3,0),(4,0),(5,3),(6,3),(7,3),(8,3)]),
 (7042013,true,[4],[(0,0),(1,0),(2,0),(3,0),(4,1),(5,0),(6,2),(7,2),(8,2),(9,3),(10,3),(11,3),(12,3)]),
 (8030014,true,[3,5],[(0,0),(1,0),(2,0),(3,1),(4,0),(5,1),(6,2),(7,2),(8,3),(9,2),(10,0),(11,0),(12,3),(13,3)]),
 (8030020,true,[4,8,12,16],[(0,0),(1,0),(2,0),(3,0),(4,1),(5,0),(6,0),(7,0),(8,1),(9,0),(10,0),(11,0),(12,1),(13,0),(14,0),(15,0),(16,1),(17,0),(18,2),(19,3)]),
 (8033008,true,[6],[(0,0),(3,0),(4,0),(5,0),(6,1),(1,2),(2,2),(7,3)]),
 (8035008,true,[3],[(0,0),(1,0),(2,0),(3,1),(4,0),(5,2),(6,3),(7,3)]),
 (8037019,true,[8,12],[(0,0),(1,2),(2,2),(3,2),(4,2),(5,0),(6,0),(7,0),(8,1),(9,0),(10,0),(11,0),(12,1),(13,2),(14,2),(15,2),(16,2),(17,2),(18,2)]),
 (8065016,true,[7],[(0,0),(1,0),(2,0),(3,0),(4,0),(5,0),(6,0),(7,1),(8,0),(9,2),(10,2),(11,2),(12,3),(13,3),(14,3),(15,3)]),
 (8066016,true,[7],[(0,0),(1,0),(2,0),(3,0),(4,0),(5,0),(6,0),(7,1),(8,0),(9,2),(10,2),(11,2),(12,3),(13,3),(14,3),(15,3)]),
 (9033015,true,[3,6],[(0,0),(1,0),(2,0),(3,1),(4,0),(5,0),(6,1),(7,2),(8,2),(9,3),(10,2),(11,0),(12,0),(13,3),(14,3)]),
 (9040010,true,[3,5],[(0,0),(1,0),(2,0),(3,1),(4,0),(5,1),(6,2),(7,2),(8,3),(9,3)]),
 (9042014,true,[3,5],[(0,0),(1,0),(2,0),(3,1),(4,0),(5,1),(6,2),(7,2),(8,3),(9,2),(10,0),(11,0),(12,3),(13,3)]),
 (10033020,true,[11],[(0,0),(1,0),(2,0),(3,0),(4,0),(5,0),(6,0),(7,0),(8,0),(9,0),(10,0),(11,1),(12,0),(13,2),(14,2),(15,2),(16,3),(17,3),(18,3),(19,3)]),
 (10041017,true,[3,6],[(0,0),(1,0),(2,0),(3,1),(4,0),(5,0),(6,1),(7,2),(8,2),(9,3),(10,2),(11,0),(12,0),(13,3),(14,3),(15,3),(16,3)]),
 (10047020,true,[11],[(0,0),(1,0),(2,0),(3,0),(4,0),(5,0),(6,0),(7,0),(8,0),(9,0),(10,0),(11,1),(12,0),(13,2),(14,2),(15,2),(16,3),(17,3),(18,3),(19,3)]),
 (10048010,true,[3],[(0,0),(1,0),(2,0),(3,1),(4,0),(5,2),(6,2),(7,2),(8,2),(9,3)]),
 (10055013,true,[3,7],[(0,0),(1,0),(2,0),(3,1),(4,0),(5,0),(6,0),(7,1),(8,0),(9,2),(10,2),(11,2),(12,3)]),
 (10081016,true,[7],[(0,0),(1,0),(2,0),(3,0),(4,0),(5,0),(6,0),(7,1),(8,0),(9,2),(10,2),(11,2),(12,3),(13,3),(14,3),(15,3)]),
 (11042018,true,[9],[(0,0),(1,0),(2,0),(3,0),(4,0),(5,0),(6,0),(7,0),(8,0),(9,1),(10,0),(11,2),(12,2),(13,2),(14,3),(15,3),(16,3),(17,3)]),
 (11051010,true,[3,5],[(0,0),(1,0),(2,0),(3,1),(4,0),(5,1),(6,2),(7,2),(8,3),(9,3)]),
 (11067010,true,[3],[(0,0),(1,0),(2,0),(3,1),(4,0),(5,2),(6,2),(7,2),(8,2),(9,3)]),
 (12050012,true,[3,6],[(0,0),(1,0),(2,0),(3,1),(4,0),(5,0),(6,1),(7,2),(8,2),(9,3),(10,2),(11,3)]),
 (12054019,true,[4,12],[(0,0),(1,0),(2,0),(3,0),(4,1),(5,0),(6,0),(7,0),(8,0),(9,0),(10,0),(11,0),(12,1),(13,2),(14,2),(15,2),(16,3),(17,3),(18,3)]),
 (12057012,true,[3,6],[(0,0),(1,0),(2,0),(3,1),(4,0),(5,0),(6,1),(7,2),(8,2),(9,3),(10,3),(11,3)]),
 (12059014,true,[1,6],[(0,0),(1,1),(2,0),(3,0),(4,0),(5,0),(6,1),(7,2),(8,2),(9,2),(10,2),(11,2),(12,3),(13,3)]),
 (13054014,false,[],[(0,0),(1,0),(2,0),(3,0),(4,0),(5,0),(6,0),(7,3),(8,3),(9,3),(10,3),(11,3),(12,3),(13,3)]),
 (13063014,true,[3,5],[(0,0),(1,0),(2,0),(3,1),(4,0),(5,1),(6,2),(7,2),(8,3),(9,2),(10,0),(11,0),(12,3),(13,3)]),
 (13079015,true,[3],[(0,0),(1,0),(2,0),(3,1),(4,0),(5,2),(6,2),(7,2),(8,2),(9,3),(10,2),(11,0),(12,0),(13,3),(14,3)]),
 (13099014,true,[7],[(0,0),(1,2),(2,2),(3,2),(4,0),(5,0),(6,0),(7,1),(8,0),(9,2),(10,2),(11,2),(12,3),(13,2)]),
 (14054011,false,[],[(0,0),(1,0),(2,0),(3,0),(4,0),(5,0),(6,0),(7,3),(8,3),(9,3),(10,3)]),
 (14063010,true,[3],[(0,0),(1,0),(2,0),(3,1),(4,0),(5,2),(6,2),(7,3),(8,2),(9,3)]),
 (14070010,true,[3],[(0,0),(1,0),(2,0),(3,1),(4,0),(5,2),(6,2),(7,3),(8,3),(9,3)]),
 (14091054,true,[0,20,23,26,36,39,49],[(0,1),(1,2),(2,2),(3,2),(4,2),(5,0),(6,2),(7,2),(8,2),(9,2),(10,0),(11,2),(12,2),(13,2),(14,2),(15,0),(17,0),(18,0),(19,0),(20,1),(21,0),(22,0),(23,1),(24,0),(25,0),(26,1),(16,2),(27,2),(28,2),(29,2),(30,2),(31,0),(33,0),(34,0),(35,0),(36,1),(37,0),(38,0),(39,1),(40,0),(32,2),(41,2),(42,2),(43,2),(44,0),(46,0),(47,0),(48,0),(49,1),(45,2),(50,2),(51,2),(52,2),(53,2)]),
 (15115015,true,[7],[(0,0),(1,2),(2,2),(3,2),(4,0),(5,0),(6,0),(7,1),(8,0),(9,2),(10,2),(11,2),(12,3),(13,2),(14,2)]),
 (16068011,true,[3],[(0,0),(1,0),(2,0),(3,1),(4,0),(5,2),(6,2),(7,2),(8,2),(9,3),(10,2)]),
 (16145015,true,[5,8],[(0,0),(2,0),(3,0),(4,0),(5,1),(6,0),(7,0),(8,1),(1,2),(9,2),(10,2),(11,2),(12,2),(13,2),(14,3)]),
 (17073015,true,[7],[(0,2),(1,2),(2,2),(3,0),(4,0),(5,0),(6,0),(7,1),(8,0),(9,2),(10,2),(11,2),(12,3),(13,2),(14,2)]),
 (17079018,true,[9],[(0,0),(1,0),(2,0),(3,0),(4,0),(5,0),(6,0),(7,0),(8,0),(9,1),(10,0),(11,2),(12,2),(13,2),(14,3),(15,3),(16,3),(17,3)]),
 (18135016,true,[7],[(0,0),(1,0),(2,0),(3,0),(4,0),(5,0),(6,0),(7,1),(8,0),(9,2),(10,2),(11,2),(12,3),(13,3),(14,3),(15,3)]),
 (19087011,true,[3,6],[(0,0),(1,0),(2,0),(3,1),(4,0),(5,0),(6,1),(7,2),(8,2),(9,3),(10,3)]),
 (21153016,true,[7],[(0,0),(1,0),(2,0),(3,0),(4,0),(5,0),(6,0),(7,1),(8,0),(9,2),(10,2),(11,2),(12,3),(13,3),(14,3),(15,3)]),
 (22106011,true,[3],[(0,0),(1,0),(2,0),(3,1),(4,0),(5,2),(6,2),(7,2),(8,2),(9,3),(10,2)]),
 (23107014,true,[3,5,7,9],[(0,0),(1,0),(2,0),(3,1),(4,0),(5,1),(6,0),(7,1),(8,0),(9,1),(10,2),(11,2),(12,3),(13,3)]),
 (23117018,true,[9],[(0,0),(1,0),(2,0),(3,0),(4,0),(5,0),(6,0),(7,0),(8,0),(9,1),(10,0),(11,2),(12,2),(13,2),(14,3),(15,3),(16,3),(17,3)]),
 (31146011,false,[],[(0,0),(1,0),(2,0),(3,0),(4,0),(5,0),(6,0),(7,3),(8,3),(9,3),(10,3)])]
def zou:List (Nat×Bool×List Nat×List (Nat×Nat))→Nat→Option (Bool×List Nat×List (Nat×Nat))
 |[],_=>none
 |(x,s)::r,n=>bif Nat.beq x n then some s else zou r n
def znx(id:Nat):List Oper→Nat
 |[]=>0
 |o::r=>id*1000000+o.dst.getD 0*1000+(o::r).length
theorem qsw{p:Prop}(h:p:=by repeat(first|exact Swap.all|exact Swap.here|apply Swap.skip|apply Swap.past)):p:=h
theorem qsf{p:Prop}(h:p:=by intro s';repeat(first|exact Swap.all|exact Swap.here|exact Swap.one|apply Swap.skip|apply Swap.past)):p:=h
theorem qpt{p:Prop}(h:p:=by repeat(first|exact Part.all|exact Part.here|apply Part.skip|apply Part.past)):p:=h
section
variable {P:Program}{K:Act→World→Prop}{a a':Act}{w w0:World}{ops:Array Oper}{l l':List (Oper×Nat)}{c:Nat}{o:Oper}{F:List Nat}{L L' L'' Lr:List Ent}{b q:Nat}{ty t:TypeId}{x y:Operand}{ow:Bool}{S:World→Prop}{Q:Exit→Act→World→Prop}{v:Value}
theorem qT(h:zg P ops K S l a w):zg P ops K S l a w:=h
theorem qC(h:zg P ops K S l a' w)(hx:o.op= .move x∨o.op= .assign x:=by first|exact .inl rfl|exact .inr rfl)(hc:(c==0||c==2||c==3)=true:=by exact rfl)(hw:Wt o ops a:=by exact rfl)(e:a.eval x=v:=by(try simp only[Act.eval,zR,qGz,qGs]);with_reducible rfl)(ea:a.put o.dst v=a':=by exact qea):zg P ops K S ((o,c)::l) a w:=St.copy hx hc hw e (ea▸h)
theorem qCat{s u:ByteArray}(h:zg P ops K S l a' w)(hx:o.op= .binOp .add ty x y t:=by exact rfl)(hc:(c==0||c==2||c==3)=true:=by exact rfl)(hw:Wt o ops a:=by exact rfl)(e1:a.eval x= .string s:=by exact rfl)(e2:a.eval y= .string u:=by exact rfl)(hl:s.size+u.size≤9223372036854775807:=by first|omega|(simp only[ByteArray.size_append,znO,List.size_toArray,laPz,lcGz,Nat.reduceAdd];omega))(ea:a.put o.dst (.string (s++u))=a':=by exact qea):zg P ops K S ((o,c)::l) a w:=St.cat hx hc hw e1 e2 hl (ea▸h)
theorem qI{k:Nat}(h:zg P ops K S l a' w)(hx:o.op= .binOp .add ty x y t:=by exact rfl)(hc:(c==0||c==2||c==3)=true:=by exact rfl)(hw:Wt o ops a:=by exact rfl)(e2:a.eval y= .int .i64 1:=by exact rfl)(e1:a.eval x= .int .i64 (k:Int):=by exact rfl)(hl:k+1≤9223372036854775807:=by omega)(ea:a.put o.dst (.int .i64 ((k+1:Nat):Int))=a':=by exact qea):zg P ops K S ((o,c)::l) a w:=St.inc hx hc hw e2 e1 hl (ea▸h)
theorem qP(h:zg P ops K S l a' w)(hk:znu o.op=true:=by exact rfl)(hc:(c==0||c==2||c==3)=true:=by exact rfl)(hw:Wt o ops a:=by exact rfl)(hy: ∀ w,(execOp a.eval o).run P w= .ok (.value v) w:=by intro w;go_simp;all_goals with_reducible rfl)(ea:a.put o.dst v=a':=by exact qea):zg P ops K S ((o,c)::l) a w:=St.pure hk hc hw hy (ea▸h)
theorem qId{cs:Array Value}{k:Nat}(h:zg P ops K S l a' w)(hx:o.op= .index ty x y:=by exact rfl)(hc:(c==0||c==2||c==3)=true:=by exact rfl)(hw:Wt o ops a:=by exact rfl)(e1:a.eval x= .agg cs:=by exact rfl)(e2:a.eval y= .int .i64 (k:Int):=by exact rfl)(hB:arrB P ty cs.size=true:=by kernel_rfl)(hv:cs[k]? =some v:=by first|rfl|assumption)(ea:a.put o.dst v=a':=by exact qea):zg P ops K S ((o,c)::l) a w:=St.index hx hc hw e1 e2 hB hv (ea▸h)
theorem qId0{cs:Array Value}{i:Int}(h:zg P ops K S l a' w)(hx:o.op= .index ty x y:=by exact rfl)(hc:(c==0||c==2||c==3)=true:=by exact rfl)(hw:Wt o ops a:=by exact rfl)(e1:a.eval x= .agg cs:=by exact rfl)(e2:a.eval y= .int .i64 i:=by exact rfl)(hi:i=((Int.toNat i:Nat):Int):=by exact rfl)(hB:arrB P ty cs.size=true:=by kernel_rfl)(hv:cs[Int.toNat i]? =some v:=by first|rfl|assumption)(ea:a.put o.dst v=a':=by exact qea):zg P ops K S ((o,c)::l) a w:=St.index0 hx hc hw e1 e2 hi hB hv (ea▸h)
theorem qL{r:Res}(hM:St w0 F w L)(h:zg P ops K S l a' w)(hx:o.op= .load ty x:=by exact rfl)(hc:(c==2||c==3)=true:=by exact rfl)(hw:Wt o ops a:=by exact rfl)(hT:Zu ZA ty=none:=by exact rfl)(hev:a.eval x= .pointer (some ⟨b,q,none⟩):=by exact rfl)(hm:(b,ow,r)∈L:=by repeat constructor)(hv:r.known[q]? =some v:=by first|rfl|assumption)(h1:oneB P ty=true:=by kernel_rfl)(ea:a.put o.dst v=a':=by exact qea):zg P ops K S ((o,c)::l) a w:=St.load hx hM hc hw hT hev hm hv h1 (ea▸h)
theorem qL1{r:Res}(h:zg P ops K (Held w0 F Lr) l a' w)(hx:o.op= .load ty x:=by exact rfl)(hw:Wt o ops a:=by exact rfl)(hT:Zu ZA ty=none:=by exact rfl)(hev:a.eval x= .pointer (some ⟨b,q,none⟩):=by exact rfl)(hm:(b,ow,r)∈Lr:=by repeat constructor)(hv:r.known[q]? =some v:=by first|rfl|assumption)(h1:oneB P ty=true:=by kernel_rfl)(ea:a.put o.dst v=a':=by exact qea):zg P ops K (Held w0 F Lr) ((o,1)::l) a w:=St.load1 hx hw hT hev hm hv h1 (ea▸h)
theorem qLR{r:Res}{n:Nat}(hM:St w0 F w L)(h:zg P ops K S l a' w)(hx:o.op= .load ty x:=by exact rfl)(hc:(c==2||c==3)=true:=by exact rfl)(hw:Wt o ops a:=by exact rfl)(hT:Zu ZA ty=some n:=by exact rfl)(hev:a.eval x= .pointer (some ⟨b,q,none⟩):=by exact rfl)(hm:(b,ow,r)∈L:=by repeat constructor)(hl:q+n≤r.known.length:=by exact Nat.le_of_ble_eq_true rfl)(h1:rowB P ty n=true:=by kernel_rfl)(ev:Value.agg ((r.known.drop q).take n).toArray=v:=by exact qcu)(ea:a.put o.dst v=a':=by exact qea):zg P ops K S ((o,c)::l) a w:=St.loadRow hx hM hc hw hT hev hm hl h1 (by rw[ev,ea];exact h)
theorem qLS{r:Res}{n:Nat}(h:zg P ops K (Held w0 F Lr) l a' w)(hx:o.op= .load ty x:=by exact rfl)(hw:Wt o ops a:=by exact rfl)(hT:Zu ZA ty=some n:=by exact rfl)(hev:a.eval x= .pointer (some ⟨b,q,none⟩):=by exact rfl)(hm:(b,ow,r)∈Lr:=by repeat constructor)(hl:q+n≤r.known.length:=by exact Nat.le_of_ble_eq_true rfl)(h1:rowB P ty n=true:=by kernel_rfl)(ev:Value.agg ((r.known.drop q).take n).toArray=v:=by exact qcu)(ea:a.put o.dst v=a':=by exact qea):zg P ops K (Held w0 F Lr) ((o,1)::l) a w:=St.loadRow1 hx hw hT hev hm hl h1 (by rw[ev,ea];exact h)
theorem qF1{ad:Addr}(hM:St w0 F w L)(h:zg P ops K S l a' w)(hx:o.op= .load ty x:=by exact rfl)(hc:(c==2||c==3)=true:=by exact rfl)(hw:Wt o ops a:=by exact rfl)(hT:Zu ZA ty=none:=by exact rfl)(hev:a.eval x= .pointer (some ad):=by exact rfl)(hv:w0.cell? ad=some v:=by assumption)(hF:ad.block∉F:=by first|assumption|exact lbRz)(h1:oneB P ty=true:=by kernel_rfl)(ea:a.put o.dst v=a':=by exact qea):zg P ops K S ((o,c)::l) a w:=St.loadF hx hc hw hT hev (yi hM.only hv hF) h1 (ea▸h)
theorem qF2{ad:Addr}(h:zg P ops K (Held w0 F Lr) l a' w)(hx:o.op= .load ty x:=by exact rfl)(hw:Wt o ops a:=by exact rfl)(hT:Zu ZA ty=none:=by exact rfl)(hev:a.eval x= .pointer (some ad):=by exact rfl)(hv:w0.cell? ad=some v:=by assumption)(hF:ad.block∉F:=by first|assumption|exact lbRz)(h1:oneB P ty=true:=by kernel_rfl)(ea:a.put o.dst v=a':=by exact qea):zg P ops K (Held w0 F Lr) ((o,1)::l) a w:=St.loadF1 hx hw hT hev (fun _ hS=>yi hS.only hv hF) h1 (ea▸h)
theorem qF3{n:Nat}{vs:List Value}(hM:St w0 F w L)(h:zg P ops K S l a' w)(hx:o.op= .load ty x:=by exact rfl)(hc:(c==2||c==3)=true:=by exact rfl)(hw:Wt o ops a:=by exact rfl)(hT:Zu ZA ty=some n:=by exact rfl)(hev:a.eval x= .pointer (some ⟨b,q,none⟩):=by exact rfl)(hv:w0.rangeAt b q vs:=by assumption)(hF:b∉F:=by first|assumption|exact lbRz)(h1:rowB P ty vs.length=true:=by kernel_rfl)(ea:a.put o.dst (.agg vs.toArray)=a':=by exact qea):zg P ops K S ((o,c)::l) a w:=St.loadRowF hx hc hw hT hev (yR hM.only hv hF) h1 (ea▸h)
theorem qF4{n:Nat}{vs:List Value}(h:zg P ops K (Held w0 F Lr) l a' w)(hx:o.op= .load ty x:=by exact rfl)(hw:Wt o ops a:=by exact rfl)(hT:Zu ZA ty=some n:=by exact rfl)(hev:a.eval x= .pointer (some ⟨b,q,none⟩):=by exact rfl)(hv:w0.rangeAt b q vs:=by assumption)(hF:b∉F:=by first|assumption|exact lbRz)(h1:rowB P ty vs.length=true:=by kernel_rfl)(ea:a.put o.dst (.agg vs.toArray)=a':=by exact qea):zg P ops K (Held w0 F Lr) ((o,1)::l) a w:=St.loadRowF1 hx hw hT hev (fun _ hS=>yR hS.only hv hF) h1 (ea▸h)
theorem qO(h:zg P ops K S l a' w)(hc:(c==0||c==1||c==2||c==3)=true:=by exact rfl)(hw:Region.wanted o (yielded ops a.tmps)=false:=by exact rfl)(ea:a.put o.dst undef=a':=by exact qea):zg P ops K S ((o,c)::l) a w:=ziX hc hw (ea▸h)
theorem qU{r:Res}(hM:St w0 F w L)(h: ∀ w',St w0 F w' L''→zg P ops K (Held w0 F Lr) l a' w')(hx:o.op= .store ty x y:=by exact rfl)(hc:(c==2||c==3)=true:=by exact rfl)(hw:Wt o ops a:=by exact rfl)(hT:Zu ZA ty=none:=by exact rfl)(hev:a.eval x= .pointer (some ⟨b,q,none⟩):=by exact rfl)(hy:a.eval y=v:=by exact rfl)(hu:Upd L (b,true,r) (b,true,r.put (r.known.set q v)) L':=by repeat constructor)(hq:q<r.known.length:=by exact Nat.le_of_ble_eq_true rfl)(h1:oneB P ty=true:=by kernel_rfl)(hv:v.oneCell'=true:=by exact rfl)(hS:c=2→Rest L (b,true,r) Lr:=by exact qhs)(eL:L'=L'':=by exact qev)(ea:a.put o.dst undef=a':=by exact qea):zg P ops K (Held w0 F Lr) ((o,c)::l) a w:=St.store hx hM hc hw hT hev hy hu hq h1 hv hS (by rw[eL,ea];exact h)
theorem qV{r:Res}{n:Nat}{vs:Array Value}(hM:St w0 F w L)(h: ∀ w',St w0 F w' L''→zg P ops K (Held w0 F Lr) l a' w')(hx:o.op= .store ty x y:=by exact rfl)(hc:(c==2||c==3)=true:=by exact rfl)(hw:Wt o ops a:=by exact rfl)(hT:Zu ZA ty=some n:=by exact rfl)(hev:a.eval x= .pointer (some ⟨b,q,none⟩):=by exact rfl)(hy:a.eval y= .agg vs:=by exact rfl)(hu:Upd L (b,true,r) (b,true,r.put (over r.known q vs.toList)) L':=by repeat constructor)(hq:q+vs.size≤r.known.length:=by exact Nat.le_of_ble_eq_true rfl)(h0:0<vs.size:=by exact Nat.le_of_ble_eq_true rfl)(h1:rowB P ty vs.size=true:=by kernel_rfl)(hv0:vs.toList.all (·.oneCell')=true:=by exact rfl)(hS:c=2→Rest L (b,true,r) Lr:=by exact qhs)(eL:L'=L'':=by exact qev)(ea:a.put o.dst undef=a':=by exact qea):zg P ops K (Held w0 F Lr) ((o,c)::l) a w:=St.storeRow hx hM hc hw hT hev hy hu hq h0 h1 hv0 hS (by rw[eL,ea];exact h)
theorem qB{L':Nat→List Ent}{a':Nat→Act}(hM:St w0 F w L)(h: ∀ w' b,St w0 F w' (L' b)→zg P ops K (Held w0 F Lr) l (a' b) w')(hx:o.op= .box ty x:=by exact rfl)(hc:(c==2||c==3)=true:=by exact rfl)(hw:Wt o ops a:=by exact rfl)(hev:a.eval x=v:=by exact rfl)(eL: ∀ b,(b,true,.cells v.cells.toList ty)::L=L' b:=by intro b;exact qev)(ea: ∀ b,a.put o.dst (.pointer (some ⟨b,0,none⟩))=a' b:=by intro b;exact qea):zg P ops K (Held w0 F Lr) ((o,c)::l) a w:=St.box hx hM hc hw hev (fun w' b=>by rw[eL,ea];exact h w' b)
theorem qA{z:Value}{L':Nat→List Ent}{a':Nat→Act}(hM:St w0 F w L)(h: ∀ w' b,St w0 F w' (L' b)→zg P ops K (Held w0 F Lr) l (a' b) w')(hx:o.op= .alloc ty:=by exact rfl)(hc:(c==2||c==3)=true:=by exact rfl)(hw:Wt o ops a:=by exact rfl)(_hZ:zfW zfe ty=some z:=by exact rfl)(hz:((P.info? ty).bind (·.zero))=some z:=by kernel_rfl)(eL: ∀ b,(b,true,.cells z.cells.toList ty)::L=L' b:=by intro b;exact qev)(ea: ∀ b,a.put o.dst (.pointer (some ⟨b,0,none⟩))=a' b:=by intro b;exact qea):zg P ops K (Held w0 F Lr) ((o,c)::l) a w:=St.alloc hx hM hc hw hz (fun w' b=>by rw[eL,ea];exact h w' b)
theorem qAA{o':Oper}{ty':TypeId}{z z':Value}{L':Nat→Nat→List Ent}{a':Nat→Nat→Act}(hM:St w0 F w L)(h: ∀ w' b b',St w0 F w' (L' b b')→zg P ops K (Held w0 F Lr) l (a' b b') w')(hx:o.op= .alloc ty:=by exact rfl)(hx':o'.op= .alloc ty':=by exact rfl)(hg:o.guard=none:=by exact rfl)(hg':o'.guard=none:=by exact rfl)(hd: ∀ d,o.dst=some d→o'.dst≠some d:=by simp)(_hZ:zfW zfe ty=some z:=by exact rfl)(_hZ':zfW zfe ty'=some z':=by exact rfl)(hz:((P.info? ty).bind (·.zero))=some z:=by kernel_rfl)(hz':((P.info? ty').bind (·.zero))=some z':=by kernel_rfl)
  (eL: ∀ b b',(b',true,.cells z'.cells.toList ty')::(b,true,.cells z.cells.toList ty)::L=L' b b':=by intro b b';exact qev) (ea: ∀ b b',(a.put o.dst (.pointer (some ⟨b,0,none⟩))).put o'.dst (.pointer (some ⟨b',0,none⟩))=a' b b':=by intro b b';exact qea):zg P ops K (Held w0 F Lr) ((o,4)::(o',c)::l) a w:=St.allocs hx hx' hM hg hg' hd hz hz' (fun w' b b'=>by rw[eL,ea];exact h w' b b')
theorem qS{n:Nat}{ps:Array (Nat×Operand)}{cells:Array Value}{e:TypeId}{L':Nat→List Ent}{a':Nat→Act}(hM:St w0 F w L)(h: ∀ w' b,St w0 F w' (L' b)→zg P ops K (Held w0 F Lr) l (a' b) w')(hx:o.op= .buildSlice ty n ps:=by exact rfl)(hc:(c==2||c==3)=true:=by exact rfl)(hw:Wt o ops a:=by exact rfl)(hy: ∀ w:World,(execOp a.eval o).run P w= .ok (.value (.slice (some ⟨w.heap.size,0,none⟩) n n)) (w.alloc (.cells cells e)):=by intro w;go_simp;all_goals with_reducible rfl)(eL: ∀ b,(b,true,.cells cells.toList e)::L=L' b:=by intro b;exact qev)(ea: ∀ b,a.put o.dst (.slice (some ⟨b,0,none⟩) n n)=a' b:=by intro b;exact qea):zg P ops K (Held w0 F Lr) ((o,c)::l) a w:=St.buildSlice hx hM hc hw hy (fun w' b=>by rw[eL,ea];exact h w' b)
theorem qK{f:FuncId}{ags:Array Operand}{ts:Array TypeId}{args:Array Value}(h: ∀ R:Ending→World→Prop,Shut (∀ v w',(S w→S w')→zg P ops K S l (a.put o.dst v) w'→R (.returned v) w')→Calls P f args w R)(hx:o.op= .call {callee:= .value (.func f),args:=ags,argTypes:=ts}:=by exact rfl)(hc:(c==2||c==3)=true:=by exact rfl)(hw:Wt o ops a:=by exact rfl)(hf:XS P f=true:=by kernel_rfl)(eg:ags.map a.eval=args:=by first|(simp only[lbOz,laDz,lbBz,Act.eval,zR,qGz,qGs];exact rfl)|exact rfl):zg P ops K S ((o,c)::l) a w:=St.call hx hc hw hf (eg▸h)
theorem qK3{f:FuncId}{ags:Array Operand}{ts:Array TypeId}{args:Array Value}(h: ∀ R:Ending→World→Prop,Shut (∀ v w',zg P ops K S l (a.put o.dst v) w'→R (.returned v) w')→Calls P f args w R)(hx:o.op= .call {callee:= .value (.func f),args:=ags,argTypes:=ts}:=by exact rfl)(hw:Wt o ops a:=by exact rfl)(hf:XS P f=true:=by kernel_rfl)(eg:ags.map a.eval=args:=by first|(simp only[lbOz,laDz,lbBz,Act.eval,zR,qGz,qGs];exact rfl)|exact rfl):zg P ops K S ((o,3)::l) a w:=St.call3 hx hw hf (eg▸h)
theorem qJ{u:Value}{R:Ending→World→Prop}{o:Oper}(hR:Shut (∀ v w',(Held w0 F Lr w→Held w0 F Lr w')→zg P ops K (Held w0 F Lr) l (a.put o.dst v) w'→R (.returned v) w'))(hM:St w0 F w L)(h: ∀ w',St w0 F w' L→zg P ops K (Held w0 F Lr) l a' w')(ea:a.put o.dst u=a':=by exact qea): ∀ e w',(e= .returned u∧Below w.heap.size w w')→R e w':=fun e w' ⟨he,hb⟩=>by subst he;exact hR.out _ _ (fun h=>h.below hb) (by rw[ea];exact h w' (hM.below hb))
theorem qJ3{u:Value}{R:Ending→World→Prop}{o:Oper}(hR:Shut (∀ v w',zg P ops K S l (a.put o.dst v) w'→R (.returned v) w'))(hM:St w0 F w L)(h: ∀ w',St w0 F w' L→zg P ops K S l a' w')(ea:a.put o.dst u=a':=by exact qea): ∀ e w',(e= .returned u∧Below w.heap.size w w')→R e w':=fun e w' ⟨he,hb⟩=>by subst he;exact hR.out _ _ (by rw[ea];exact h w' (hM.below hb))
theorem qCB{f:FuncId}{ags:Array Operand}{ts:Array TypeId}{args:Array Value}{u:Value}(C:Calls P f args w fun e w'=>e= .returned u∧Below w.heap.size w w')(hM:St w0 F w L)(h: ∀ w',St w0 F w' L→zg P ops K (Held w0 F Lr) l a' w')(hx:o.op= .call {callee:= .value (.func f),args:=ags,argTypes:=ts}:=by exact rfl)(hc:(c==2||c==3)=true:=by exact rfl)(hw:Wt o ops a:=by exact rfl)(hf:XS P f=true:=by kernel_rfl)
  (eg:ags.map a.eval=args:=by first|(simp only[lbOz,laDz,lbBz,Act.eval,zR,qGz,qGs]<;> exact rfl)|exact rfl) (ea:a.put o.dst u=a':=by exact qea):zg P ops K (Held w0 F Lr) ((o,c)::l) a w:=St.call hx hc hw hf (fun _ hR=>eg▸C.mono (qJ hR hM h ea))
theorem qG{u:Value}{R:Ending→World→Prop}{o:Oper}(hR:Shut (∀ v w',(S w→S w')→zg P ops K S l (a.put o.dst v) w'→R (.returned v) w'))(h:zg P ops K S l a' w)(ea:a.put o.dst u=a':=by exact qea): ∀ e w',(e= .returned u∧w=w')→R e w':=fun e w' ⟨he,hb⟩=>by subst he;subst hb;exact hR.out _ _ (fun h=>h) (by rw[ea];exact h)
theorem qGr{u:Value}{R:Ending→World→Prop}{o:Oper}(hR:Shut (∀ v w',(S w→S w')→zg P ops K S l (a.put o.dst v) w'→R (.returned v) w'))(h:zg P ops K S l a' w)(ea:a.put o.dst u=a':=by exact qea): ∀ e w',(e= .returned u∧w'=w)→R e w':=fun e w' ⟨he,hb⟩=>by subst he;subst hb;exact hR.out _ _ (fun h=>h) (by rw[ea];exact h)
theorem qG3{u:Value}{R:Ending→World→Prop}{o:Oper}(hR:Shut (∀ v w',zg P ops K S l (a.put o.dst v) w'→R (.returned v) w'))(h:zg P ops K S l a' w)(ea:a.put o.dst u=a':=by exact qea): ∀ e w',(e= .returned u∧w=w')→R e w':=fun e w' ⟨he,hb⟩=>by subst he;subst hb;exact hR.out _ _ (by rw[ea];exact h)
theorem qX{id:Nat}{os:List Oper}(hM:St w0 F w L)(h: ∀ K:Act→World→Prop,Shut (∀ a w,Q .normal a w→K a w)→zg P os.toArray K (Held w0 F []) l' a w)(e:XL os=l':=by first|(simp only[lbKz,laIz,laJz,XL];exact rfl)|exact rfl):(Code.region id os.toArray false).wp P Q a w:=zoD hM (e▸h)
theorem qD{id:Nat}{os:List Oper}(hM:St w0 F w L)(hs:Sub Lr L)(fl:List Nat)(il:List (Nat×Nat))(h: ∀ w,St w0 F w L→ ∀ K:Act→World→Prop,Shut (∀ a w,Q .normal a w→K a w)→zg P os.toArray K (Held w0 F Lr) l' a w)(hm:P.follows .mixedOrders=true:=by kernel_rfl)(hB:((Region.noSelect os.toArray&&(il.length==os.toArray.size&&xE .any os.toArray fl il (Array.replicate os.toArray.size false) true))&&il.all fun x=>decide (x.1<os.length))=true:=by kernel_rfl)(e:Xb os il=l':=by first|(simp only[Xb,qGz,qGs];exact rfl)|exact rfl):(Code.region id os.toArray true).wp P Q a w:=zdh hM hs fl il hm hB (e▸h)
theorem qDa{id:Nat}{os:List Oper}{fl:List Nat}{il:List (Nat×Nat)}(hM:St w0 F w L)(h: ∀ w,St w0 F w L→ ∀ K:Act→World→Prop,Shut (∀ a w,Q .normal a w→K a w)→zg P os.toArray K (Held w0 F L) l' a w)(_hk:zou znp (znx id os)=some (true,fl,il):=by exact rfl)(hm:P.follows .mixedOrders=true:=by kernel_rfl)(hB:((Region.noSelect os.toArray&&(il.length==os.toArray.size&&xE .any os.toArray fl il (Array.replicate os.toArray.size false) true))&&il.all fun x=>decide (x.1<os.length))=true:=by kernel_rfl)(e:Xb os il=l':=by first|(simp only[Xb,qGz,qGs];exact rfl)|exact rfl):(Code.region id os.toArray true).wp P Q a w:=zdh hM (Sub.all L) fl il hm hB (e▸h)
theorem qDn{id:Nat}{os:List Oper}{fl:List Nat}{il:List (Nat×Nat)}(hM:St w0 F w L)(h: ∀ w,St w0 F w L→ ∀ K:Act→World→Prop,Shut (∀ a w,Q .normal a w→K a w)→zg P os.toArray K (Held w0 F []) l' a w)(_hk:zou znp (znx id os)=some (false,fl,il):=by exact rfl)(hm:P.follows .mixedOrders=true:=by kernel_rfl)(hB:((Region.noSelect os.toArray&&(il.length==os.toArray.size&&xE .any os.toArray fl il (Array.replicate os.toArray.size false) true))&&il.all fun x=>decide (x.1<os.length))=true:=by kernel_rfl)(e:Xb os il=l':=by first|(simp only[Xb,qGz,qGs];exact rfl)|exact rfl):(Code.region id os.toArray true).wp P Q a w:=zdh hM Sub.nil fl il hm hB (e▸h)
end
section
variable {P:Program}{w w0:World}{F:List Nat}{L:List Ent}{a:Act}{fn:Func}{R:Ending→World→Prop}{rs:List ResultVar}{vs:List Value}
theorem qR(hM:St w0 F w L)(hR:R (.returned (tup vs)) w)(hr:fn.results=rs.toArray:=by exact rfl)(h:Outs P L a.tmps rs vs:=by exact qou)(hd:a.defers=[]:=by exact rfl):bodyPost P fn R .ret a w:=St.ret hM hr h hd hR
theorem qFn(hM:St w0 F w L)(hR:R (.returned (tup vs)) w)(hr:fn.results=rs.toArray:=by exact rfl)(h:Outs P L a.tmps rs vs:=by exact qou)(hd:a.defers=[]:=by exact rfl):bodyPost P fn R .normal a w:=St.fin hM hr h hd hR
end
section
variable {P:Program}{K M:Act→World→Prop}{a:Act}{w:World}{ops:Array Oper}{S:World→Prop}
theorem qE(h:M a w)(hK:Shut (∀ a w,M a w→K a w):=by assumption):K a w:=hK.out _ _ h
theorem qM(h:M a w)(hK:Shut (∀ a w,M a w→K a w):=by assumption):zg P ops K S [] a w:=zjb (hK.out _ _ h)
theorem qW0{p q:Prop}(k:q)(h:Hd q→p:=by
  intro q1k
  first
   |((with_reducible refine qT ?_);first|((with_reducible refine qM ?_);(try clear q1r q1R))|refine qC ?_|refine qCat ?_|refine qI ?_|refine qP ?_|refine qId ?_|refine qId0 ?_|refine qL hM ?_|refine qL1 ?_|refine qLR hM ?_|refine qLS ?_|refine qF1 hM ?_|refine qF2 ?_|refine qF3 hM ?_|refine qF4 ?_|refine qO ?_|((refine qU hM ?_);(try clear hM);intro q1w hM)|((refine qV hM ?_);(try clear hM);intro q1w hM))
   |refine ZI (fun q1K q1h=> ?_)|refine qX hM (fun q1R q1r=> ?_)|refine wp_block ?_|refine wp_skip ?_|refine wp_cond_true rfl ?_|refine wp_cond_false rfl ?_
   |(refine wp_exit ?_;simp only[Exit.then,Exit.inBlock,if_true,if_false,reduceCtorEq,Nat.reduceEqDiff,Nat.succ_ne_zero])|((refine q1h.out _ _ ?_);clear q1h q1K)|refine qE ?_|fail
  repeat(first
   |((with_reducible refine qT ?_);first|((with_reducible refine qM ?_);(try clear q1r q1R))|refine qC ?_|refine qCat ?_|refine qI ?_|refine qP ?_|refine qId ?_|refine qId0 ?_|refine qL hM ?_|refine qL1 ?_|refine qLR hM ?_|refine qLS ?_|refine qF1 hM ?_|refine qF2 ?_|refine qF3 hM ?_|refine qF4 ?_|refine qO ?_|((refine qU hM ?_);(try clear hM);intro q1w hM)|((refine qV hM ?_);(try clear hM);intro q1w hM))
   |refine ZI (fun q1K q1h=> ?_)|refine qX hM (fun q1R q1r=> ?_)|refine wp_block ?_|refine wp_skip ?_|refine wp_cond_true rfl ?_|refine wp_cond_false rfl ?_
   |(refine wp_exit ?_;simp only[Exit.then,Exit.inBlock,if_true,if_false,reduceCtorEq,Nat.reduceEqDiff,Nat.succ_ne_zero])|((refine q1h.out _ _ ?_);clear q1h q1K)|refine qE ?_)
  have q1M:=hM
  (try clear hM)
  revert q1M
  (repeat revert q1w)
  (repeat revert q1R)
  (repeat revert q1K)
  exact q1k.out):p:=h ⟨k⟩
theorem qW{p q:Prop}(k:q)(h:Hd q→p:=by
  intro q1k
  first
   |((with_reducible refine qT ?_);first|((with_reducible refine qM ?_);(try clear q1r q1R))|refine qC ?_|refine qCat ?_|refine qI ?_|refine qP ?_|refine qId ?_|refine qId0 ?_|refine qL hM ?_|refine qL1 ?_|refine qLR hM ?_|refine qLS ?_|refine qF1 hM ?_|refine qF2 ?_|refine qF3 hM ?_|refine qF4 ?_|refine qO ?_|((refine qU hM ?_);(try clear hM);intro q1w hM)|((refine qV hM ?_);(try clear hM);intro q1w hM))
   |refine ZI (fun q1K q1h=> ?_)|refine qX hM (fun q1R q1r=> ?_)|refine wp_block ?_|refine wp_skip ?_|refine wp_cond_true rfl ?_|refine wp_cond_false rfl ?_
   |((refine qDa hM ?_);(try clear hM);intro q1w hM q1R q1r)|((refine qDn hM ?_);(try clear hM);intro q1w hM q1R q1r)
   |(refine wp_exit ?_;simp only[Exit.then,Exit.inBlock,if_true,if_false,reduceCtorEq,Nat.reduceEqDiff,Nat.succ_ne_zero])|((refine q1h.out _ _ ?_);clear q1h q1K)|refine qE ?_|fail
  repeat(first
   |((with_reducible refine qT ?_);first|((with_reducible refine qM ?_);(try clear q1r q1R))|refine qC ?_|refine qCat ?_|refine qI ?_|refine qP ?_|refine qId ?_|refine qId0 ?_|refine qL hM ?_|refine qL1 ?_|refine qLR hM ?_|refine qLS ?_|refine qF1 hM ?_|refine qF2 ?_|refine qF3 hM ?_|refine qF4 ?_|refine qO ?_|((refine qU hM ?_);(try clear hM);intro q1w hM)|((refine qV hM ?_);(try clear hM);intro q1w hM))
   |refine ZI (fun q1K q1h=> ?_)|refine qX hM (fun q1R q1r=> ?_)|refine wp_block ?_|refine wp_skip ?_|refine wp_cond_true rfl ?_|refine wp_cond_false rfl ?_
   |((refine qDa hM ?_);(try clear hM);intro q1w hM q1R q1r)|((refine qDn hM ?_);(try clear hM);intro q1w hM q1R q1r)
   |(refine wp_exit ?_;simp only[Exit.then,Exit.inBlock,if_true,if_false,reduceCtorEq,Nat.reduceEqDiff,Nat.succ_ne_zero])|((refine q1h.out _ _ ?_);clear q1h q1K)|refine qE ?_)
  have q1M:=hM
  (try clear hM)
  revert q1M
  (repeat revert q1w)
  (repeat revert q1R)
  (repeat revert q1K)
  exact q1k.out):p:=h ⟨k⟩
theorem qMk{p q:Prop}(k:q)(h:Hd q→p:=by
  intro q1k
  first
   |refine qB hM ?_
   |refine qS hM ?_
   |refine qA hM ?_
   |fail
  exact q1k.out):p:=h ⟨k⟩
theorem qKx{p q:Prop}(k:q)(h:Hd q→p:=by
  intro q1k
  first
   |refine qK ?_
   |refine qK3 ?_
   |fail
  exact q1k.out):p:=h ⟨k⟩
theorem qj{p q:Prop}(k:q)(h:Hd q→p:=by
  intro q1k
  first
   |refine qJ3 hR hM ?_
   |refine qJ hR hM ?_
   |fail
  exact q1k.out):p:=h ⟨k⟩
theorem qf{p q:Prop}(k:q)(h:Hd q→p:=by
  intro q1k
  first
   |(refine wp_ret ?_;(try simp only[Exit.then,Exit.inBlock]);refine qR hM ?_)
   |(simp only[Exit.then,Exit.inBlock];refine qFn hM ?_)
   |refine qFn hM ?_
   |fail
  exact q1k.out):p:=h ⟨k⟩
end
end
section
open Go.RowKit
abbrev An(f:FuncId)(xs:Array Value)(w:World)(v:Value):Prop:=Calls Tryz.prog f xs w fun e w'=>e= .returned v∧Below w.heap.size w w'
section
theorem qw{p q:Prop}(k:q)(h:Hd q→p:=by
  intro q1k
  repeat(first
   |((with_reducible refine qT ?_);first|((with_reducible refine qM ?_);(try clear q1r q1R))|refine qC ?_|refine qCat ?_|refine qI ?_|refine qP ?_|refine qId ?_|refine qId0 ?_|refine qL hM ?_|refine qL1 ?_|refine qLR hM ?_|refine qLS ?_|refine qF1 hM ?_|refine qF2 ?_|refine qF3 hM ?_|refine qF4 ?_|refine qO ?_|((refine qU hM ?_);(try clear hM);intro q1w hM)|((refine qV hM ?_);(try clear hM);intro q1w hM)|((refine qB hM ?_);(try clear hM);intro q1w q1b hM)|((refine qS hM ?_);(try clear hM);intro q1w q1b hM)|((refine qA hM ?_);(try clear hM);intro q1w q1b hM))
   |refine ZI (fun q1K q1h=> ?_)|refine qX hM (fun q1R q1r=> ?_)|refine wp_block ?_|refine wp_skip ?_|refine wp_cond_true rfl ?_|refine wp_cond_false rfl ?_
   |((refine qDa hM ?_);(try clear hM);intro q1w hM q1R q1r)|((refine qDn hM ?_);(try clear hM);intro q1w hM q1R q1r)
   |(refine wp_exit ?_;simp only[Exit.then,Exit.inBlock,if_true,if_false,reduceCtorEq,Nat.reduceEqDiff,Nat.succ_ne_zero])|((refine q1h.out _ _ ?_);clear q1h q1K)|refine qE ?_)
  have q1M:=hM
  (try clear hM)
  revert q1M
  (repeat revert q1w)
  (repeat revert q1R)
  (repeat revert q1K)
  (repeat revert q1b)
  exact q1k.out):p:=h ⟨k⟩
theorem qfb{p:Prop}(h:p:=by
  refine qf ?_
  exact⟨rfl,hM.to_below⟩):p:=h
theorem qwf{p:Prop}(h:p:=by
  (refine qw ?_;intros;rename_i hM)
  refine qf ?_
  exact⟨rfl,hM.to_below⟩):p:=h
theorem qho{p q:Prop}(k:q)(h:Hd q→p:=by
  intro q1k
  first
   |refine hR.out _ _ ?_
   |refine hR.out _ _ (fun _=>⟨hM.only,nofun⟩) ?_
   |refine hR.out _ _ (fun h=>h.past hM.only) ?_
   |fail
  exact q1k.out):p:=h ⟨k⟩
theorem qq{p q:Prop}(k:q)(h:Hd q→p:=by
  intro q1k
  (try simp only[qp])
  exact q1k.out):p:=h ⟨k⟩
theorem qio{p:Prop}(h:p:=by simp only[zR,qGz,qGs,intOf];omega):p:=h
theorem qne{α:Type}[BEq α][LawfulBEq α]{a b:α}:(a==b)=false↔a≠b:=beq_eq_false_iff_ne
theorem qh{p:Prop}(h:p):Hid p:=h
end
section
variable {P:Program}{K:Act→World→Prop}{a a':Act}{w w0:World}{ops:Array Oper}{l l':List (Oper×Nat)}{c:Nat}{o:Oper}{F:List Nat}{L L' L'' Lr:List Ent}{S:World→Prop}{v:Value}
theorem qG3r{u:Value}{R:Ending→World→Prop}{o:Oper}(hR:Shut (∀ v w',zg P ops K S l (a.put o.dst v) w'→R (.returned v) w'))(h:zg P ops K S l a' w)(ea:a.put o.dst u=a':=by exact qea): ∀ e w',(e= .returned u∧w'=w)→R e w':=fun e w' ⟨he,hb⟩=>by subst he;subst hb;exact hR.out _ _ (by rw[ea];exact h)
theorem qgs{p q:Prop}(k:q)(h:Hd q→p:=by
  intro q1k
  first
   |refine qG hR ?_
   |refine qGr hR ?_
   |refine qG3 hR ?_
   |refine qG3r hR ?_
   |fail
  exact q1k.out):p:=h ⟨k⟩
end
end
section
open Go.RowKit Go.Maps
def ze(L:List Ent):List Nat:=L.map (·.1)
def zx(x:Ent):Ent:=(x.1,false,x.2.2)
def zO(L:List Ent):Prop:= ∀ x∈L,x.2.1=true
structure At (M:List Ent) (w:World):Prop where
 has:Has M w
 nd:(ze M).Nodup
section
variable {w0 w w':World}{F:List Nat}{L L' M M':List Ent}
theorem At.below(h:At M w)(hb:Below w.heap.size w w'):At M w':=⟨h.has.below hb,h.nd⟩
theorem At.lt(h:At M w): ∀ k∈ze M,k<w.heap.size:=fun k hk=>by
 obtain⟨x,hx,rfl⟩:=laKz.1 hk
 exact h.has.lt hx
inductive Part:List Ent→List Ent→Prop where
 |all {M:List Ent}:Part M M
 |here {M R:List Ent}:Part (M++R) M
 |skip {x:Ent} {L M:List Ent} (h:Part L M):Part (x::L) M
 |past {N L M:List Ent} (h:Part L M):Part (N++L) M
theorem Part.split{L M:List Ent}(h:Part L M): ∃ A B,L=A++(M++B):=by
 induction h with
 |all=>exact⟨[],[],by simp⟩
 |here=>exact⟨[],_,rfl⟩
 | @skip x _ _ _ ih=>obtain⟨A,B,h1⟩:=ih;exact⟨x::A,B,by rw[h1];rfl⟩
 | @past N _ _ _ ih=>obtain⟨A,B,h1⟩:=ih;exact⟨N++A,B,by rw[h1,lcAz]⟩
theorem St.part(h:St w0 F w L)(hs:Part L M):At M w:=by
 obtain⟨A,B,rfl⟩:=hs.split
 refine⟨fun x hx=>h.holds x (by simp[hx]), ?_⟩
 have:=h.nd
 simp only[laMz,laSz] at this
 exact this.2.1.1
theorem St.whole(h:St w0 F w L):At L w:=⟨h.holds,h.nd⟩
theorem At.st(h:At M w):St w (ze M) w M:=⟨Only.refl _ w,h.has,h.nd,fun _ hx _=> .inl (laLz hx)⟩
theorem At.ro(h:At M w):St w [] w (M.map zx):=by
 refine⟨Only.refl _ w,fun x hx=> ?_, ?_,fun x hx h1=> ?_⟩
 ·obtain⟨y,hy,rfl⟩:=laKz.1 hx
  exact h.has y hy
 ·rw[lbZz]
  exact h.nd
 ·obtain⟨y,hy,rfl⟩:=laKz.1 hx
  cases h1
theorem St.backM(h:St w0 F w L)(hs:Swap L M M' L')(hw:zO M)(h':St w (ze M) w' M')(hw':zO M'):St w0 F w' L':=by
 obtain⟨A,B,rfl,rfl⟩:=hs.split
 have hnd:=h.nd
 simp only[laMz,laSz] at hnd
 obtain⟨n1,⟨n2,n3,n4⟩,n5⟩:=hnd
 have hkeep: ∀ x,x∈A∨x∈B→x.1<w.heap.size∧x.1∉ze M:=fun x hx=>by
  refine⟨h.lt (by rcases hx with h|h<;> simp[h]),fun hm=> ?_⟩
  rcases hx with hx|hx
  ·exact n5 x.1 (laLz hx) x.1 (by rw[laAz];exact .inl hm) rfl
  ·exact n4 x.1 hm x.1 (laLz hx) rfl
 have hown: ∀ x∈M',x.1∈ze M∨w.heap.size≤x.1:=fun x hx=>h'.own x hx (hw' x hx)
 refine⟨h.only.then h'.only (fun k hk=> ?_),fun x hx=> ?_, ?_,fun x hx hx1=> ?_⟩
 ·obtain⟨x,hx,rfl⟩:=laKz.1 hk
  exact h.own x (by simp[hx]) (hw x hx)
 ·simp only[laAz] at hx
  rcases hx with hx|hx|hx
  ·rw[h'.only.block x.1 (hkeep x (.inl hx)).1 (hkeep x (.inl hx)).2]
   exact h.holds x (by simp[hx])
  ·exact h'.holds x hx
  ·rw[h'.only.block x.1 (hkeep x (.inr hx)).1 (hkeep x (.inr hx)).2]
   exact h.holds x (by simp[hx])
 ·simp only[laMz,laSz]
  have hne: ∀ x,x∈A∨x∈B→ ∀ y∈M',x.1≠y.1:=fun x hx y hy e=>by
   rcases hown y hy with h1|h1
   ·exact(hkeep x hx).2 (e▸h1)
   ·have:=(hkeep x hx).1
    omega
  refine⟨n1,⟨h'.nd,n3,fun a ha b hb=> ?_⟩,fun a ha b hb=> ?_⟩
  ·obtain⟨y,hy,rfl⟩:=laKz.1 ha
   obtain⟨x,hx,rfl⟩:=laKz.1 hb
   exact(hne x (.inr hx) y hy).symm
  ·obtain⟨x,hx,rfl⟩:=laKz.1 ha
   rcases laAz.1 hb with hb|hb
   ·obtain⟨y,hy,rfl⟩:=laKz.1 hb
    exact hne x (.inl hx) y hy
   ·exact n5 x.1 (laLz hx) b (by rw[laAz];exact .inr hb)
 ·simp only[laAz] at hx
  rcases hx with hx|hx|hx
  ·exact h.own x (by simp[hx]) hx1
  ·rcases hown x hx with h1|h1
   ·obtain⟨y,hy,e⟩:=laKz.1 h1
    rw[←e]
    exact h.own y (by simp[hy]) (hw y hy)
   ·exact .inr (Nat.le_trans h.only.size h1)
  ·exact h.own x (by simp[hx]) hx1
theorem St.madeM(h:St w0 F w L)(h':St w [] w' M)(hw:zO M):St w0 F w' (M++L):=by
 have hbl:Below w.heap.size w w':=h'.only.to_below (Nat.le_refl _) (by simp)
 have h1:=h.below hbl
 refine⟨h1.only,fun x hx=> ?_, ?_,fun x hx hx1=> ?_⟩
 ·rcases laAz.1 hx with hx|hx
  ·exact h'.holds x hx
  ·exact h1.holds x hx
 ·simp only[laMz,laSz]
  refine⟨h'.nd,h.nd,fun a ha b hb e=> ?_⟩
  obtain⟨x,hx,rfl⟩:=laKz.1 ha
  obtain⟨y,hy,rfl⟩:=laKz.1 hb
  have:=h'.fresh (b:=x.1) (r:=x.2.2) (by have:=hw x hx;rw[←this];exact hx)
  have:=h.lt hy
  omega
 ·rcases laAz.1 hx with hx|hx
  ·have:=h'.fresh (b:=x.1) (r:=x.2.2) (by have:=hw x hx;rw[←this];exact hx)
   exact .inr (Nat.le_trans h.only.size this)
  ·exact h1.own x hx hx1
end
/-! ### maps -/
def zpd(P:Program)(k:TypeId)(l:List (Lit×Value))(o:Obj):Prop:= ∃ (w:World) (b:Nat),w.heap[b]? =some o∧zA P k w b l
abbrev mapR(P:Program)(k:TypeId)(l:List (Lit×Value)):Res:= .obj (zpd P k l)
section
variable {P:Program}{k:TypeId}{w w':World}{b:Nat}{l:List (Lit×Value)}
theorem ZU(h:(mapR P k l).holds w.heap[b]?):zA P k w b l:=by
 obtain⟨o,ho,w1,b1,hb,hm⟩:=h
 obtain⟨es,clock,h1,F,hs,hD⟩:=hm
 rw[hb] at h1
 exact⟨es,clock,ho.trans h1,F,hs,hD⟩
theorem Yx(h:zA P k w b l):(mapR P k l).holds w.heap[b]? :=by
 have h0:=h
 obtain⟨es,clock,h1,-⟩:=h0
 exact⟨_,h1,w,b,h1,h⟩
end
section
variable {P:Program}{K:Act→World→Prop}{a:Act}{w w0:World}{ops:Array Oper}{l:List (Oper×Nat)}{c:Nat}{o:Oper}{F:List Nat}{L L' Lr:List Ent}{b:Nat}{ty kt et:TypeId}{x y z:Operand}{ow:Bool}{S:World→Prop}{m:List (Lit×Value)}{kl:Lit}{key:Value}
theorem Yn(hx:o.op= .lookup ty x y false)(hev:a.eval x= .map (some b))(hy:a.eval y=key)(hr:(mapR P kt m).holds w.heap[b]?)(hK:Keyed P kt)(ht:P.underlying ty=some (.map kt et)){zv:Value}(hz: ∀ w,(zeroValue et).run P w= .ok zv w)(hkey:keyOf P kt key=some kl):
  (execOp a.eval o).run P w= .ok (.value (yb m kl zv)) w:=by
 have h:=zA.look (ZU hr) hK ht (hz w) hkey
 unfold execOp
 simp only[hx,hev,hy,Sem.run_bind,h,Result.andThen_ok,Sem.run_pure]
theorem St.lookup(hx:o.op= .lookup ty x y false)(hM:St w0 F w L)(hc:(c==2||c==3)=true)(hw:Region.wanted o (yielded ops a.tmps)=true)(hev:a.eval x= .map (some b))(hy:a.eval y=key)(hm:(b,ow,mapR P kt m)∈L)(hK:Keyed P kt)(ht:P.underlying ty=some (.map kt et)){zv:Value}(hz: ∀ w,(zeroValue et).run P w= .ok zv w)(hkey:keyOf P kt key=some kl){v:Value}(hv:yb m kl zv=v)
  (h:zg P ops K S l (a.put o.dst v) w):zg P ops K S ((o,c)::l) a w:=
 zB hc hw (by rw[←hv];exact Yn hx hev hy (hM.holds _ hm) hK ht hz hkey) h
theorem St.lookup1(hx:o.op= .lookup ty x y false)(hw:Region.wanted o (yielded ops a.tmps)=true)(hev:a.eval x= .map (some b))(hy:a.eval y=key)(hm:(b,ow,mapR P kt m)∈Lr)(hK:Keyed P kt)(ht:P.underlying ty=some (.map kt et)){zv:Value}(hz: ∀ w,(zeroValue et).run P w= .ok zv w)(hkey:keyOf P kt key=some kl){v:Value}(hv:yb m kl zv=v)
  (h:zg P ops K (Held w0 F Lr) l (a.put o.dst v) w):zg P ops K (Held w0 F Lr) ((o,1)::l) a w:=
 yh hw (fun w hS=>by rw[←hv];exact Yn hx hev hy (hS.has _ hm) hK ht hz hkey) h
theorem zbq{w w':World}{b:Nat}(h:w.mapTurned w' b):Only [b] w w':=by
 have g:=h.grown
 exact⟨g.os,g.tape,g.output,g.size,fun k hk hn=>g.block k hk (fun e=>by cases e;exact hn (by simp))⟩
theorem St.mapUpdate(hx:o.op= .mapUpdate ty x y z)(hM:St w0 F w L)(hc:(c==2||c==3)=true)(hw:Region.wanted o (yielded ops a.tmps)=true)(hev:a.eval x= .map (some b))(hy:a.eval y=key){val:Value}(hz:a.eval z=val){m':List (Lit×Value)}(hu:Upd L (b,true,mapR P kt m) (b,true,mapR P kt m') L')(hm':putL kl val m=m')(hK:Keyed P kt)(ht:P.underlying ty=some (.map kt et))(hn:m.length<maxLen)(hkey:keyOf P kt key=some kl)
  (hS:c=2→Rest L (b,true,mapR P kt m) Lr) (h: ∀ w',St w0 F w' L'→zg P ops K (Held w0 F Lr) l (a.put o.dst undef) w'):zg P ops K (Held w0 F Lr) ((o,c)::l) a w:=by
 subst hm'
 obtain⟨w',hrun,hat,htn⟩:=zA.store (ZU (hM.holds _ hu.mem)) hK ht hn (val:=val) hkey
 have hO:=zbq htn
 have hown: ∀ x∈[b],x∈F∨w0.heap.size≤x:=fun x hx=>by
  have e:x=b:=by simpa using hx
  rw[e];exact hM.own _ hu.mem rfl
 have hr:(execOp a.eval o).run P w= .ok .skip w':=by
  unfold execOp
  simp only[hx,hev,hy,hz,Sem.run_bind,hrun,Result.andThen_ok,Sem.run_pure]
 exact zM hc hw hr (.inr ⟨rfl,rfl⟩) (fun h2 hh=>⟨hh.only.then hO hown,hh.has.turn hO ((hS h2).apart hM.nd)⟩) (h _ (hM.turn hu hO (Yx hat)))
theorem St.mapDelete(hx:o.op= .call {callee:= .builtin .delete,args:= #[x,y],argTypes:= #[ty,kt]})(hM:St w0 F w L)(hc:(c==2||c==3)=true)(hw:Region.wanted o (yielded ops a.tmps)=true)(hev:a.eval x= .map (some b))(hy:a.eval y=key){m':List (Lit×Value)}(hu:Upd L (b,true,mapR P kt m) (b,true,mapR P kt m') L')(hm':delL kl m=m')(hK:Keyed P kt)(ht:P.underlying ty=some (.map kt et))(hkey:keyOf P kt key=some kl)
  (hS:c=2→Rest L (b,true,mapR P kt m) Lr) (h: ∀ w',St w0 F w' L'→zg P ops K (Held w0 F Lr) l (a.put o.dst (.tuple #[])) w'):zg P ops K (Held w0 F Lr) ((o,c)::l) a w:=by
 subst hm'
 obtain⟨w',hrun,hat,htn⟩:=zA.drop (ty:=o.type) (ZU (hM.holds _ hu.mem)) hK ht hkey
 have hO:=zbq htn
 have hown: ∀ x∈[b],x∈F∨w0.heap.size≤x:=fun x hx=>by
  have e:x=b:=by simpa using hx
  rw[e];exact hM.own _ hu.mem rfl
 have hr:(execOp a.eval o).run P w= .ok (.value (.tuple #[])) w':=by
  unfold execOp
  simp only[hx,resolve,invoke,builtin,Sem.run_bind,Sem.run_pure,Result.andThen_ok,lbOz,laDz,lbBz,hev,hy,hrun]
 exact zM hc hw hr (.inl rfl) (fun h2 hh=>⟨hh.only.then hO hown,hh.has.turn hO ((hS h2).apart hM.nd)⟩) (h _ (hM.turn hu hO (Yx hat)))
theorem St.makeMap(hx:o.op= .makeMap ty none)(hM:St w0 F w L)(hc:(c==2||c==3)=true)(hw:Region.wanted o (yielded ops a.tmps)=true)(hy: ∀ w:World,(execOp a.eval o).run P w= .ok (.value (.map (some w.heap.size))) (w.alloc (.map #[] 0)))
  (h: ∀ w' b,St w0 F w' ((b,true,mapR P kt [])::L)→zg P ops K (Held w0 F Lr) l (a.put o.dst (.map (some b))) w'):zg P ops K (Held w0 F Lr) ((o,c)::l) a w:=by
 refine St.make hM hc hw (fun b=> .map (some b)) (ob:= .map #[] 0) hy ?_ h
 have:=Yx (zA.made (P:=P) (k:=kt) w)
 rwa [heap_alloc_new] at this
end
end
section
open Go.RowKit
theorem zf{s:Option (Nat×Nat)}{n size:Nat}{xs:List Value}(hk:SlOK s n xs size): ∃ a c,slV s n= .slice a n c∧ ∀ g cap,s=some (g,cap)→a=some ⟨g,0,none⟩∧c=cap:=by
 cases s with
 |none=>
  obtain rfl:n=0:=hk.2
  exact⟨none,0,rfl,nofun⟩
 |some gc=>exact⟨_,_,rfl,fun g cap h=>by cases h;exact⟨rfl,rfl⟩⟩
theorem zo(s:Option (Nat×Nat))(xs:List Value)(e:TypeId)(size:Nat):zO (slL s xs e size):=fun x hx=>by
 cases s with
 |none=>cases hx
 |some gc=>
  rcases laGz.1 hx with rfl
  rfl
section
variable {w:World}{L M:List Ent}
theorem At.sub(h:At L w)(hs:M.Sublist L):At M w:=⟨fun x hx=>h.has x (hs.subset hx),(hs.map _).nodup h.nd⟩
end
theorem Zn{s:ByteArray}{l:List UInt8}(h:s.data.toList=l):(s.toList==l)=true:=by rw[ByteArray.toList_eq,h];simp
theorem Zt{s:ByteArray}{l:List UInt8}(h:¬s.data.toList=l):(s.toList==l)=false:=by rw[ByteArray.toList_eq];exact qne.2 h
theorem Pt.ba_ext{a b:ByteArray}(h:a.data.toList=b.data.toList):a=b:=by
 cases a
 cases b
 congr 1
 exact Array.toList_inj.1 h
abbrev txL(s:Option (Nat×Nat))(xs:List ByteArray):List Ent:=slL s (xs.map Value.string) 9 1
abbrev TxOK(s:Option (Nat×Nat))(xs:List ByteArray):Prop:=SlOK s xs.length (xs.map Value.string) 1
theorem zL(s:Option (Nat×Nat))(xs:List ByteArray):zO (txL s xs):=fun x hx=>by
 cases s with
 |none=>cases hx
 |some gc=>
  rcases laGz.1 hx with rfl
  rfl
end
end Go.Proofs.YtcicjklhbnipcaaGreatDoor
