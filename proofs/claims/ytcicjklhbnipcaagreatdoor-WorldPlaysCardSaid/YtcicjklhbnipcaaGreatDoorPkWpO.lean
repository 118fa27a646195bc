/-
  Laid texts.
-/
import Derived.Test.YtcicjklhbnipcaaGreatDoorPkWpN
set_option maxHeartbeats 16000000
set_option maxRecDepth 1000000
set_option linter.unusedVariables false
set_option linter.unusedSimpArgs false
namespace Go.Proofs.YtcicjklhbnipcaaGreatDoor
section
open Go.ChangeShapes Go.WideShapes Go.RowKit
structure fU where
 f:ActF
 cut:Bool
 keep:Int
def fU.cells(a:fU):List Value:=a.f.cells++[.bool a.cut,.int .i64 a.keep]
structure fU.Fit (a:fU):Prop where
 f:a.f.Fit
 keep:Fits a.keep
def qs(w:World)(a:Option Addr)(n:Nat)(xs:List fU):Prop:=
 n=xs.length∧n≤maxLen∧ ∀ k x,xs[k]? =some x→x.Fit∧ ∃ b off,a=some ⟨b,off,none⟩∧ ∀ j,j<13→w.cell? ⟨b,off+k*13+j,none⟩=x.cells[j]?
theorem qs.below{w w':World}{a:Option Addr}{n:Nat}{xs:List fU}(h:qs w a n xs)(hb:Below w.heap.size w w'):qs w' a n xs:=by
 obtain⟨h1,h2,h3⟩:=h
 refine⟨h1,h2,fun k x hk=> ?_⟩
 obtain⟨hf,b,off,ha,hc⟩:=h3 k x hk
 refine⟨hf,b,off,ha,fun j hj=> ?_⟩
 have:=hc j hj
 have hlen:x.cells.length=13:=rfl
 have hs:x.cells[j]? =some x.cells[j]:=laRz (by omega)
 rw[hs] at this ⊢
 exact(hb.cell (p:=⟨b,off+k*13+j,none⟩) (World.block_lt_of_cell? w _ this)).trans this
end
section
open Go.RowKit Go.Maps
theorem qs.get{w:World}{a:Option Addr}{n:Nat}{xs:List fU}(h:qs w a n xs){k:Nat}{x:fU}(hk:xs[k]? =some x):
  x.Fit∧ ∃ b off,a=some ⟨b,off,none⟩∧w.rangeAt b (off+k*13) x.cells∧w.rangeAt b (off+k*13) x.f.cells∧w.rangeAt b (off+k*13+2) x.f.op.cells:=by
 obtain⟨-,-,h3⟩:=h
 obtain⟨hf,b,off,rfl,hc⟩:=h3 k x hk
 refine⟨hf,b,off,rfl,nZ fun j hj=>hc j hj,nZ fun j hj=> ?_,nZ fun j hj=> ?_⟩
 ·have hl:x.f.cells.length=11:=rfl
  rw[hc j (by omega)]
  unfold fU.cells
  rw[lcQz hj]
 ·have hl:x.f.op.cells.length=9:=rfl
  have hl2:x.f.cells.length=11:=rfl
  have:=hc (j+2) (by omega)
  rw[show off+k*13+(j+2)=off+k*13+2+j by omega] at this
  rw[this]
  unfold fU.cells
  rw[lcQz (by omega)]
  rfl
end
section
open Go.RowKit Go.Maps
namespace Ol
def act(D:ar)(a:fU):ResD×ar:=if a.cut=true then(Fs.errR 0,cut D a.keep) else if a.f.exit=true then(Fs.errR 0,exit D a.f.owner) else do_ D a.f.owner a.f.op
structure ui (N:Nat) (D:ar):Prop where
 inv:Inv N D
 gd:Good D
 law:Lawful D
section
variable {N M:Nat}{D:ar}
theorem ui.more(h:ui N D)(hM:N≤M):ui M D:=⟨h.inv.more hM,h.gd,h.law⟩
end
end Ol
section
variable {N:Nat}{X:cI}{β γ:Int→Nat×Nat}{D:ar}{w w' w0:World}{F:List Nat}{L L' M M':List Ent}
end
end
section
open Go.RowKit Go.Maps
section
variable {w w' w0:World}{F:List Nat}{L:List Ent}
def uj(w:World)(p:Option Addr):Prop:=p=none∨ ∃ f,p=some ⟨f,0,none⟩∧w.rangeAt f 0 [.pointer none,.pointer none,.slice none 0 0]
theorem uj.below{p:Option Addr}(h:uj w p)(hb:Below w.heap.size w w'):uj w' p:=by
 rcases h with h|⟨f,h,hc⟩
 ·exact .inl h
 ·refine .inr ⟨f,h,fun j v hj=> ?_⟩
  have:=hc j v hj
  exact(hb.cell (p:=⟨f,0+j,none⟩) (World.block_lt_of_cell? w _ this)).trans this
end
end
section
open Go.RowKit Go.Maps
namespace iM
def o1:OpD:=⟨3,⟨#[97]⟩,⟨#[]⟩,0,0,0,⟨#[]⟩,0,0⟩
def o2:OpD:=⟨14,⟨#[]⟩,⟨#[]⟩,0,0,0,⟨#[]⟩,0,0⟩
def o3:OpD:=⟨7,⟨#[]⟩,⟨#[]⟩,1,0,0,⟨#[120]⟩,0,0⟩
def o4:OpD:=⟨1,⟨#[100]⟩,⟨#[]⟩,0,0,0,⟨#[]⟩,0,0⟩
def o5:OpD:=⟨6,⟨#[]⟩,⟨#[]⟩,1,0,1,⟨#[]⟩,0,0⟩
def s1:FsD:=⟨⟨4096,128,2,[⟨1,true,1,0,⟨#[]⟩,[(⟨#[97]⟩,2)]⟩,⟨2,false,1,1,⟨#[]⟩,[]⟩]⟩,[(1,[0,2,0,0,0,0,0,0,0])]⟩
def s3:FsD:=⟨⟨4096,129,2,[⟨1,true,1,0,⟨#[]⟩,[(⟨#[97]⟩,2)]⟩,⟨2,false,1,1,⟨#[120]⟩,[]⟩]⟩,[(1,[0,2,0,0,0,0,0,0,0])]⟩
def s4:FsD:=⟨⟨4096,193,3,[⟨1,true,1,0,⟨#[]⟩,[(⟨#[97]⟩,2),(⟨#[100]⟩,3)]⟩,⟨2,false,1,1,⟨#[120]⟩,[]⟩,⟨3,true,1,0,⟨#[]⟩,[]⟩]⟩,[(1,[0,2,0,0,0,0,0,0,0])]⟩
def s5:FsD:=⟨⟨4096,129,2,[⟨1,true,1,0,⟨#[]⟩,[(⟨#[97]⟩,2)]⟩,⟨2,false,1,0,⟨#[120]⟩,[]⟩]⟩,[]⟩
def D1:ar:=⟨s1,Fs.new 4096,[(1,some o1)]⟩
def D2:ar:=⟨s1,s1,[]⟩
def D3:ar:=⟨s3,s1,[(1,some o3)]⟩
def D4:ar:=⟨s4,s1,[(1,some o3),(1,some o4)]⟩
theorem f1:Fs.do_ (Fs.new 4096) 1 o1=(⟨0,1,⟨#[]⟩,[]⟩,s1):=by kernel_rfl
theorem f3:Fs.do_ s1 1 o3=(⟨0,0,⟨#[]⟩,[]⟩,s3):=by kernel_rfl
theorem f4:Fs.do_ s3 1 o4=(⟨0,0,⟨#[]⟩,[]⟩,s4):=by kernel_rfl
theorem f5:Fs.do_ s5 1 o5=(⟨13,0,⟨#[]⟩,[]⟩,s5):=by kernel_rfl
theorem d1:Ol.do_ (Ol.new 4096) 1 o1=(⟨0,1,⟨#[]⟩,[]⟩,D1):=by
 unfold Ol.do_ Ol.aO Ol.new
 rw[if_neg (by decide),f1]
 rw[if_pos (by unfold Ol.eo;decide)]
 rfl
theorem d2:Ol.do_ D1 1 o2=(⟨0,0,⟨#[]⟩,[]⟩,D2):=rfl
theorem d3:Ol.do_ D2 1 o3=(⟨0,0,⟨#[]⟩,[]⟩,D3):=by
 unfold Ol.do_ Ol.aO D2
 rw[if_neg (by decide),f3]
 rw[if_pos (by unfold Ol.eo;decide)]
 rfl
theorem d4:Ol.do_ D3 1 o4=(⟨0,0,⟨#[]⟩,[]⟩,D4):=by
 unfold Ol.do_ Ol.aO D3
 rw[if_neg (by decide),f4]
 rw[if_pos (by unfold Ol.eo;decide)]
 rfl
theorem e1:Fs.files s5=[⟨⟨#[97]⟩,false,⟨#[120]⟩⟩]:=by kernel_rfl
theorem e2:Fs.files s4=[⟨⟨#[97]⟩,false,⟨#[120]⟩⟩,⟨⟨#[100]⟩,true,⟨#[]⟩⟩]:=by kernel_rfl
end iM
theorem Ha(zs:List aj):(zs.map aj.val).all (·.oneCell')=true:=by
 rw[ldRz]
 intro v hv
 obtain⟨z,-,rfl⟩:=laKz.1 hv
 obtain⟨⟨o,_|p⟩,q⟩:=z<;> rfl
theorem Hb{X:cI}{β γ:Int→Nat×Nat}{D:ar}:(aS X.s (X.zs.map aj.val)).Sublist (bp X β γ D):=by
 unfold bp
 exact(((lbAz _ _).trans (laFz _ _))).cons _
end
section
open Go.RowKit Go.Maps
section
variable {P:Program}{K:Act→World→Prop}{a:Act}{w w0:World}{ops:Array Oper}{l:List (Oper×Nat)}{o:Oper}{F:List Nat}{L L' Lr:List Ent}{ty:TypeId}{c b q:Nat}{x y:Operand}
theorem St.kp(hx:o.op= .store ty x y)(hM:St w0 F w L)(hc:(c==2||c==3)=true)(hw:Region.wanted o (yielded ops a.tmps)=true){n:Nat}(hT:Zu ZA ty=some n)(hev:a.eval x= .pointer (some ⟨b,q,none⟩)){vs:Array Value}(hy:a.eval y= .agg vs){r:Res}(hu:Upd L (b,true,r) (b,true,r.put (over r.known q vs.toList)) L')(hq:q+vs.size≤r.known.length)(h0:0<vs.size)(h1:rowB P ty vs.size=true)(hv0:vs.toList.all (·.oneCell')=true)
  (hS:c=2→Rest L (b,true,r) Lr) (h: ∀ w',Only [b] w w'→St w0 F w' L'→zg P ops K (Held w0 F Lr) l (a.put o.dst undef) w'):zg P ops K (Held w0 F Lr) ((o,c)::l) a w:=by
 have hr:r.holds w.heap[b]? :=hM.holds _ hu.mem
 have hown: ∀ x∈[b],x∈F∨w0.heap.size≤x:=fun x hx=>by
  have e:x=b:=by simpa using hx
  rw[e];exact hM.own _ hu.mem rfl
 obtain⟨rest,t,hb,hput⟩:=Res.whole (q:=q) hr (by omega)
 have hv:vs.all (·.oneCell')=true:=by simpa using hv0
 obtain⟨d,-,-,e3⟩:=YL h1
 have hrun:(execOp a.eval o).run P w= .ok .skip (w.setCells b q vs.toList):=by
  unfold execOp
  simp only[hx,hev,hy,Instr.storeAt,Instr.sureAddr,Sem.run_bind,Sem.run_pure,Result.andThen_ok,run_storeVar_mid w b q ty vs (hb.there q vs.size (by rw[laNz];omega)) e3 hv]
 have hres:=hput (over r.known q vs.toList) (Yo _ _ _) (w.setCells b q vs.toList) (by have:=hb.setCells vs.toList q;rwa [Yz _ _ _ _ (by simpa using hq)] at this)
 exact zM hc hw hrun (.inr ⟨rfl,rfl⟩) (fun h2 hh=>⟨hh.only.then (zY b vs.toList q w) hown,hh.has.turn (zY b vs.toList q w) ((hS h2).apart hM.nd)⟩) (h _ (zY b vs.toList q w) (hM.turn hu (zY b vs.toList q w) hres))
end
section
variable {w w' w0 w1 wr:World}{Y Y':iG}{D D':ar}{V V':fh}{N M:Nat}{F F' F1 G:List Nat}{L A:List Ent}
theorem St.n_(ho:Only F w0 w1)(hM:St w1 F' w L)(hF: ∀ k∈F',k∈F∨w0.heap.size≤k):St w0 F w L:=⟨ho.then hM.only hF,hM.holds,hM.nd,fun y hy h1=>by
 rcases hM.own y hy h1 with h2|h2
 ·exact hF _ h2
 ·exact .inr (Nat.le_trans ho.size h2)⟩
theorem oc{W:World}(hM:St W F w L)(HO:Only [] w0 W)(hF: ∀ k∈F,w0.heap.size≤k)(hfl:zO L):St w (ze L) w L∧Only [] w0 w∧ ∀ k∈ze L,w0.heap.size≤k:=by
 have hs:=HO.size
 refine⟨hM.whole.st,HO.then hM.only fun k hk=> .inr (hF k hk),fun k hk=> ?_⟩
 obtain⟨y,hy,rfl⟩:=laKz.1 hk
 rcases hM.own y hy (hfl y hy) with h1|h1
 ·exact hF _ h1
 ·omega
theorem Hc{W:World}{K:List Nat}(hM:St W F w L)(HO:Only [] w0 W)(hF: ∀ k∈F,w0.heap.size≤k)(hfl:zO L)(hK: ∀ k∈K,w0.heap.size≤k∧k∉ze L):St w (ze L) w L∧Only [] w0 w∧(∀ k∈ze L,w0.heap.size≤k)∧ ∀ k∈K,w0.heap.size≤k∧k∉ze L:=
 ⟨(oc hM HO hF hfl).1,(oc hM HO hF hfl).2.1,(oc hM HO hF hfl).2.2,hK⟩
theorem cz.od(h:cz N Y D V w):w.rangeAt Y.d 0 [.pointer (some ⟨Y.now.f,0,none⟩),.pointer (some ⟨Y.base.f,0,none⟩),slV Y.s D.log.length]:=Res.range (q:=0) (n:=3) (h.at_.has (ju Y D.log.length) (by unfold bT;exact .head _)) (Nat.le_refl _)
theorem cz.dK:Y.d∈f_ Y D V:=laEz _ (by rw[Zb];exact .head _)
theorem cz.fK:Y.now.f∈f_ Y D V:=laEz _ (by rw[Zb];exact .tail _ (laCz _ (by rw[yg];exact .head _)))
theorem rZ{A B:List Ent}(ha:zO A)(hb:zO B):zO (A++B):=fun y hy=>(laAz.1 hy).elim (ha y) (hb y)
theorem uk{b:Nat}{r:Res}{B:List Ent}(hb:zO B):zO ((b,true,r)::B):=fun y hy=>by
 rcases laBz.1 hy with rfl|hy
 ·rfl
 ·exact hb y hy
theorem He(q:Int)(w:World)(hq:In.newE q=1):An 13 #[.int .i64 q] w (.tuple #[.pointer none,.int .i64 1]):=by
 have hM:=St.start w []
 have CN:=qh (fun W:World=>zpb q W hq)
 clear hq
 go_enter Tryz.func13,Tryz.ntmps13
 (refine qw ?_;intros;rename_i hM)
 (refine qK3 (fun R hR=> ?_))
 refine(CN.out _).mono ?_
 rintro e w' ⟨rfl,rfl⟩;refine qho ?_;clear hR R;(refine qq ?_)
 exact qwf
theorem Hf(q:Int)(w:World)(hq:In.newE q=1):An 23 #[.int .i64 q] w (.tuple #[.pointer none,.int .i64 1]):=by
 have hM:=St.start w []
 have CN:=qh (fun W:World=>He q W hq)
 clear hq
 go_enter Tryz.func23,Tryz.ntmps23
 (refine qw ?_;intros;rename_i hM)
 (refine qCB (CN.out _) hM ?_;clear hM;intro w' hM)
 exact qwf
namespace Ol
theorem Hg{N:Nat}{t:TabD}(I:In.Inv N t)(id:Int):(In.list t id).length≤N:=by
 unfold In.list
 split
 ·rw[lbMz]
  unfold In.at_
  cases hf:In.find t.nodes id with
  |none=>exact Nat.zero_le _
  |some n=>exact y1 I (In.find_some hf).1
 ·exact Nat.zero_le _
theorem eI{N:Nat}{D:ar}{o:Int}{p:OpD}(h:Inv N D):(do_ D o p).1.names.length≤N:=by
 unfold do_
 split
 ·exact Nat.zero_le _
 ·show(Fs.do_ D.now o p).1.names.length≤N
  unfold Fs.do_ Fs.opens Fs.gives Fs.handled Fs.lists Fs.errR
  repeat' split
  all_goals first
   |exact Nat.zero_le _
   |exact Hg h.now.inv.tbl _
end Ol
theorem Hh{X:cI}{D:ar}(h:fO X D):X.zs.length=D.log.length:=by rw[←h.log,lbMz]
theorem Hi{x:ActF}(hs:bY x):x.op.Sm:=⟨by have:=hs.path;omega,by have:=hs.dest;omega,by have:=hs.data;omega⟩
end
end
theorem Jk{p q:Prop}(k:q)(h:Hd q→p:=by
 intro q1k
 first|((first|refine St.lookup rfl hM rfl rfl rfl rfl qm zq Tryz.underlying150 zy (keyOf_int_mk Tryz.underlying3 (by assumption)) ((Zf _ _).trans (by first|assumption|rfl)) ?_|refine St.lookup1 rfl rfl rfl rfl qm zq Tryz.underlying150 zy (keyOf_int_mk Tryz.underlying3 (by assumption)) ((Zf _ _).trans (by first|assumption|rfl)) ?_|refine St.bI rfl rfl rfl rfl rfl Tryz.underlying150 Tryz.underlying3 zy ?_|refine St.bl rfl rfl rfl rfl Tryz.underlying150 Tryz.underlying3 zy ?_);(try simp only[qp]))|fail
 exact q1k.out):p:=h ⟨k⟩
section
open Go.RowKit Go.Maps Go.Shelf
structure dL where
 b:Nat
 m:Option Nat
def eJ(x:dL)(n:Int):Ent:=(x.b,true,.cells [.map x.m,.int .i64 n] 152)
def c_:Option Nat→List (Int×Int)→List Ent
 |none,_=>[]
 |some mb,l=>[(mb,true,mapR Tryz.prog 3 (bg l))]
def aN(x:dL)(t:aT):List Ent:=eJ x t.last::c_ x.m t.aa
theorem Hj(m:Option Nat)(l:List (Int×Int)):zO (c_ m l):=fun y hy=>by
 cases m with
 |none=>cases hy
 |some mb=>rcases laGz.1 hy with rfl;rfl
theorem Zs(x:dL)(t:aT):zO (aN x t):=fun y hy=>by
 unfold aN at hy
 rcases laBz.1 hy with rfl|hy
 ·rfl
 ·exact Hj _ _ y hy
structure bf (x:dL) (t:aT) (w:World):Prop where
 at_:At (aN x t) w
 none_:x.m=none→t.aa=[]
 fit:Pc.Fit t
section
variable {P:Program}{K:Act→World→Prop}{a:Act}{w:World}{ops:Array Oper}{l:List (Oper×Nat)}{c:Nat}{o:Oper}{ty kt et t:TypeId}{x y:Operand}{S:World→Prop}
theorem St.lC(hx:o.op= .binOp .eql ty x y t)(hc:(c==0||c==2||c==3)=true)(hw:Region.wanted o (yielded ops a.tmps)=true){m:Option Nat}(e1:a.eval x= .map m)(e2:a.eval y= .map none)(ht:P.underlying ty=some (.map kt et))(h:zg P ops K S l (a.put o.dst (.bool m.isNone)) w):zg P ops K S ((o,c)::l) a w:=by
 refine St.soft hc hw (fun w=> ?_) h
 have hg:(eqGuard .eql ty x y (.map m) (.map none)).run P w= .ok () w:=by
  unfold eqGuard
  simp[Sem.run_bind,Sem.run_pure,run_underlying ht]
 unfold execOp
 simp only[hx,e1,e2,Sem.run_bind,hg,run_eql_map_nil_sl (P:=P) w ty kt et m ht,Result.andThen_ok,Sem.run_pure]
end
section
variable {x:dL}{t:aT}{w w' w0:World}{F:List Nat}{L:List Ent}
theorem bf.below(h:bf x t w)(hb:Below w.heap.size w w'):bf x t w':=⟨h.at_.below hb,h.none_,h.fit⟩
def oR(w:World)(x:dL)(t:aT)(w':World)(t':aT):Prop:= ∃ x',dL.b x'=x.b∧(x'.m=none→t'.aa=[])∧St w (ze (aN x t)) w' (aN x' t')
theorem Xt(h:bf x t w){p:Int}(hp:Fits p):An 95 #[.pointer (some ⟨x.b,0,none⟩),.int .i64 p] w (.tuple #[.int .i64 (Pc.birth t.aa p),.int .i64 (Pc.bd t p)]):=by
 have hM:=h.at_.ro
 unfold aN eJ at hM
 simp only[laDz,zx] at hM
 have hn:=h.none_
 obtain⟨b,m⟩:=x
 simp only at hM hn
 unfold Pc.bd
 clear h
 cases m with
 |none=>
  obtain hz:t.aa=[]:=hn rfl
  rw[hz]
  rw[show Pc.birth [] p=0 from rfl,if_pos rfl]
  clear hz hn
  simp only[c_,lbBz] at hM
  go_enter Tryz.func95,Tryz.ntmps95
  (refine qw ?_;intros;rename_i hM)
  ((first|refine St.lookup rfl hM rfl rfl rfl rfl qm zq Tryz.underlying150 zy (keyOf_int_mk Tryz.underlying3 (by assumption)) ((Zf _ _).trans (by first|assumption|rfl)) ?_|refine St.lookup1 rfl rfl rfl rfl qm zq Tryz.underlying150 zy (keyOf_int_mk Tryz.underlying3 (by assumption)) ((Zf _ _).trans (by first|assumption|rfl)) ?_|refine St.bI rfl rfl rfl rfl rfl Tryz.underlying150 Tryz.underlying3 zy ?_|refine St.bl rfl rfl rfl rfl Tryz.underlying150 Tryz.underlying3 zy ?_);(refine qq ?_))
  exact qwf
 |some mb=>
  clear hn
  simp only[c_,laDz,lbBz,zx] at hM
  obtain⟨B,hB⟩: ∃ B,Pc.birth t.aa p=B:=⟨_,rfl⟩
  rw[hB]
  have hV:Value.int .i64 (Pc.birth t.aa p)= .int .i64 B:=by rw[hB]
  by_cases h0:B=0
  ·subst h0
   rw[if_pos rfl]
   go_enter Tryz.func95,Tryz.ntmps95
   (refine qw ?_;intros;rename_i hM)
   ((first|refine St.lookup rfl hM rfl rfl rfl rfl qm zq Tryz.underlying150 zy (keyOf_int_mk Tryz.underlying3 (by assumption)) ((Zf _ _).trans (by first|assumption|rfl)) ?_|refine St.lookup1 rfl rfl rfl rfl qm zq Tryz.underlying150 zy (keyOf_int_mk Tryz.underlying3 (by assumption)) ((Zf _ _).trans (by first|assumption|rfl)) ?_|refine St.bI rfl rfl rfl rfl rfl Tryz.underlying150 Tryz.underlying3 zy ?_|refine St.bl rfl rfl rfl rfl Tryz.underlying150 Tryz.underlying3 zy ?_);(refine qq ?_))
   exact qwf
  ·have hq:(B==0)=false:=qne.2 h0
   rw[if_neg h0]
   go_enter Tryz.func95,Tryz.ntmps95
   (refine qw ?_;intros;rename_i hM)
   ((first|refine St.lookup rfl hM rfl rfl rfl rfl qm zq Tryz.underlying150 zy (keyOf_int_mk Tryz.underlying3 (by assumption)) ((Zf _ _).trans (by first|assumption|rfl)) ?_|refine St.lookup1 rfl rfl rfl rfl qm zq Tryz.underlying150 zy (keyOf_int_mk Tryz.underlying3 (by assumption)) ((Zf _ _).trans (by first|assumption|rfl)) ?_|refine St.bI rfl rfl rfl rfl rfl Tryz.underlying150 Tryz.underlying3 zy ?_|refine St.bl rfl rfl rfl rfl Tryz.underlying150 Tryz.underlying3 zy ?_);(refine qq ?_))
   (refine qw ?_;intros;rename_i hM)
   ((first|refine St.lookup rfl hM rfl rfl rfl rfl qm zq Tryz.underlying150 zy (keyOf_int_mk Tryz.underlying3 (by assumption)) ((Zf _ _).trans (by first|assumption|rfl)) ?_|refine St.lookup1 rfl rfl rfl rfl qm zq Tryz.underlying150 zy (keyOf_int_mk Tryz.underlying3 (by assumption)) ((Zf _ _).trans (by first|assumption|rfl)) ?_|refine St.bI rfl rfl rfl rfl rfl Tryz.underlying150 Tryz.underlying3 zy ?_|refine St.bl rfl rfl rfl rfl Tryz.underlying150 Tryz.underlying3 zy ?_);(refine qq ?_))
   exact qwf
theorem Hk(h:bf x t w){p c:Int}(hp:Fits p):An 96 #[.pointer (some ⟨x.b,0,none⟩),.int .i64 p,.int .i64 c] w (.bool (Pc.alive t p c)):=by
 have hM:=St.start w []
 have HP:=qh h
 clear h
 have C:=qh (Xt HP.out hp)
 unfold Pc.bd at C
 unfold Pc.alive
 generalize Pc.birth t.aa p=B at*
 by_cases h0:B=0
 ·subst h0
  rw[if_pos rfl] at C
  simp only[ne_eq,not_true_eq_false,decide_false,Bool.false_and]
  go_enter Tryz.func96,Tryz.ntmps96
  (refine qw ?_;intros;rename_i hM)
  (refine qKx ?_;intro R hR)
  refine C.out.mono ?_
  (refine qJ hR hM ?_;clear hR R hM;intro w' hM)
  exact qwf
 ·rw[if_neg h0] at C
  have e1:decide (B≠0)=true:=decide_eq_true h0
  rw[e1,Bool.true_and]
  by_cases h1:B=c
  ·subst h1
   rw[decide_eq_true rfl]
   go_enter Tryz.func96,Tryz.ntmps96
   (refine qw ?_;intros;rename_i hM)
   (refine qKx ?_;intro R hR)
   refine C.out.mono ?_
   (refine qJ hR hM ?_;clear hR R hM;intro w' hM)
   exact qwf
  ·have hq:(B==c)=false:=qne.2 h1
   rw[decide_eq_false h1]
   go_enter Tryz.func96,Tryz.ntmps96
   (refine qw ?_;intros;rename_i hM)
   (refine qKx ?_;intro R hR)
   refine C.out.mono ?_
   (refine qJ hR hM ?_;clear hR R hM;intro w' hM)
   exact qwf
theorem Hl(h:bf x t w){p:Int}(hp:Fits p):Calls Tryz.prog 152 #[.pointer (some ⟨x.b,0,none⟩),.int .i64 p] w fun e w'=>e= .returned (.int .i64 (Pc.kill t p).1)∧oR w x t w' (Pc.kill t p).2:=by
 have hM:=h.at_.st
 unfold oR
 obtain⟨F,hF⟩: ∃ F,ze (aN x t)=F:=⟨_,rfl⟩
 rw[hF] at hM ⊢
 have HP:=qh h
 have C:=qh (fun W (hW:bf x t W)=>Xt hW hp)
 unfold Pc.bd at C
 clear h hF
 unfold Pc.kill
 by_cases h0:Pc.birth t.aa p=0
 ·rw[if_pos h0] at C ⊢
  rw[h0] at C
  go_enter Tryz.func152,Tryz.ntmps152
  (refine qw ?_;intros;rename_i hM)
  (refine qKx ?_;intro R hR)
  refine(C.out _ ⟨hM.part .all,HP.out.none_,HP.out.fit⟩).mono ?_
  rintro e w' ⟨rfl,hb⟩;replace hM:=hM.below hb;refine qho ?_;clear hR R hb;(refine qq ?_)
  (refine qw ?_;intros;rename_i hM)
  (refine qf ?_)
  exact⟨rfl,x,rfl,HP.out.none_,hM⟩
 ·rw[if_neg h0] at C ⊢
  obtain⟨b,m⟩:=x
  cases m with
  |none=>exact absurd (by rw[HP.out.none_ rfl];rfl) h0
  |some mb=>
   clear h0
   go_enter Tryz.func152,Tryz.ntmps152
   (refine qw ?_;intros;rename_i hM)
   (refine qKx ?_;intro R hR)
   refine(C.out _ ⟨hM.part .all,HP.out.none_,HP.out.fit⟩).mono ?_
   rintro e w' ⟨rfl,hb⟩;replace hM:=hM.below hb;refine qho ?_;clear hR R hb;(refine qq ?_)
   unfold aN eJ c_ at hM
   simp only at hM
   (refine qw ?_;intros;rename_i hM)
   (refine St.mapDelete rfl hM rfl rfl rfl rfl qm (Ax _ _) zq Tryz.underlying150 (keyOf_int_mk Tryz.underlying3 (by assumption)) ?_ ?_;(focus(first|(intro h;cases h;done)|(intro _;repeat(first|exact Rest.here (Sub.all _)|exact Rest.here Sub.nil|apply Rest.take|apply Rest.skip))));clear hM;intro w hM;(refine qq ?_))
   (refine qw ?_;intros;rename_i hM)
   (refine qf ?_)
   exact⟨rfl,⟨b,some mb⟩,rfl,nofun,hM⟩
theorem Hm(h:bf x t w):Calls Tryz.prog 151 #[.pointer (some ⟨x.b,0,none⟩)] w fun e w'=>e= .returned (.tuple #[])∧oR w x t w' (Pc.bU t):=by
 have hM:=h.at_.st
 unfold oR
 obtain⟨F,hF⟩: ∃ F,ze (aN x t)=F:=⟨_,rfl⟩
 rw[hF] at hM ⊢
 clear h hF
 obtain⟨b,m⟩:=x
 cases m with
 |none=>
  unfold aN eJ c_ at hM
  simp only at hM
  go_enter Tryz.func151,Tryz.ntmps151
  (refine qw ?_;intros;rename_i hM)
  refine St.ki rfl rfl rfl rfl Tryz.underlying150 ?_
  (refine qq ?_)
  (refine qw ?_;intros;rename_i hM)
  (refine qf ?_)
  exact⟨rfl,⟨b,none⟩,rfl,fun _=>rfl,hM⟩
 |some mb=>
  unfold aN eJ c_ at hM
  simp only at hM
  go_enter Tryz.func151,Tryz.ntmps151
  (refine qw ?_;intros;rename_i hM)
  refine St.lq rfl hM rfl rfl rfl qm Tryz.underlying150 (fun h=>by cases h) ?_
  clear hM;intro w hM
  (refine qq ?_)
  (refine qw ?_;intros;rename_i hM)
  (refine qf ?_)
  exact⟨rfl,⟨b,some mb⟩,rfl,nofun,hM⟩
theorem Hn(h:bf x t w)(hl:t.last≤1000000000){p:Int}(hp:Fits p):Calls Tryz.prog 150 #[.pointer (some ⟨x.b,0,none⟩),.int .i64 p] w fun e w'=>e= .returned (.tuple #[.int .i64 (Pc.spawn t p).1.1,.int .i64 (Pc.spawn t p).1.2])∧oR w x t w' (Pc.spawn t p).2:=by
 have hM:=h.at_.st
 unfold oR
 obtain⟨F,hF⟩: ∃ F,ze (aN x t)=F:=⟨_,rfl⟩
 rw[hF] at hM ⊢
 have HP:=qh h
 clear h hF
 have hf:=HP.out.fit.few
 have w8:=HP.out.fit.last
 obtain⟨b,m⟩:=x
 by_cases h1:p<1
 ·have hS:Pc.spawn t p=((0,1),t):=by
   have hE:Pc.cZ t p=1:=if_pos (.inl h1)
   unfold Pc.spawn
   rw[hE,if_neg (by decide)]
  rw[hS]
  simp only
  unfold aN eJ at hM
  go_enter Tryz.func150,Tryz.ntmps150
  (refine qw ?_;intros;rename_i hM)
  (refine qf ?_)
  exact⟨rfl,⟨b,m⟩,rfl,HP.out.none_,hM⟩
 ·by_cases h2:2147483648<p
  ·have hS:Pc.spawn t p=((0,1),t):=by
    have hE:Pc.cZ t p=1:=if_pos (.inr h2)
    unfold Pc.spawn
    rw[hE,if_neg (by decide)]
   rw[hS]
   simp only
   unfold aN eJ at hM
   go_enter Tryz.func150,Tryz.ntmps150
   (refine qw ?_;intros;rename_i hM)
   (refine qf ?_)
   exact⟨rfl,⟨b,m⟩,rfl,HP.out.none_,hM⟩
  ·have hE0:Pc.cZ t p=if Pc.birth t.aa p≠0 then 4 else if 8≤t.aa.length then 5 else 0:=if_neg (by rintro(h|h);exact h1 h;exact h2 h)
   obtain⟨B,hB⟩: ∃ B,Pc.birth t.aa p=B:=⟨_,rfl⟩
   have hV:Value.int .i64 (Pc.birth t.aa p)= .int .i64 B:=by rw[hB]
   by_cases h3:B=0
   ·subst h3
    rw[if_neg (fun h=>h hB)] at hE0
    have hln:(bg t.aa).length=t.aa.length:=by unfold bg;rw[lbMz]
    have iX:IntKind.i64.wrap (t.last+1)=t.last+1:=Za _ (by omega)
    by_cases h4:8≤t.aa.length
    ·have hS:Pc.spawn t p=((0,5),t):=by
      rw[if_pos h4] at hE0
      unfold Pc.spawn
      rw[hE0,if_neg (by decide)]
     rw[hS]
     simp only
     clear hS hE0
     have AZ:(8:Int)≤((bg t.aa).length:Int):=by omega
     cases m with
     |none=>exact absurd (by rw[HP.out.none_ rfl];decide) (Nat.not_lt.2 h4)
     |some mb=>
      unfold aN eJ c_ at hM
      simp only at hM
      clear hln
      go_enter Tryz.func150,Tryz.ntmps150
      (refine qw ?_;intros;rename_i hM)
      ((first|refine St.lookup rfl hM rfl rfl rfl rfl qm zq Tryz.underlying150 zy (keyOf_int_mk Tryz.underlying3 (by assumption)) ((Zf _ _).trans (by first|assumption|rfl)) ?_|refine St.lookup1 rfl rfl rfl rfl qm zq Tryz.underlying150 zy (keyOf_int_mk Tryz.underlying3 (by assumption)) ((Zf _ _).trans (by first|assumption|rfl)) ?_|refine St.bI rfl rfl rfl rfl rfl Tryz.underlying150 Tryz.underlying3 zy ?_|refine St.bl rfl rfl rfl rfl Tryz.underlying150 Tryz.underlying3 zy ?_);(refine qq ?_))
      (refine qw ?_;intros;rename_i hM)
      ((first|refine St.lr rfl hM rfl rfl rfl qm Tryz.underlying150 ?_|refine St.jR rfl rfl rfl qm Tryz.underlying150 ?_);(refine qq ?_))
      (refine qw ?_;intros;rename_i hM)
      (refine qf ?_)
      exact⟨rfl,⟨b,some mb⟩,rfl,nofun,hM⟩
    ·have hS:Pc.spawn t p=((t.last+1,0),⟨Pc.put t.aa p (t.last+1),t.last+1⟩):=by
      rw[if_neg h4] at hE0
      unfold Pc.spawn
      rw[hE0,if_pos rfl]
     rw[hS]
     simp only
     clear hS hE0
     have AZ:¬(8:Int)≤((bg t.aa).length:Int):=by omega
     have Ho:(bg t.aa).length<maxLen:=by unfold maxLen;omega
     cases m with
     |none=>
      have hz:=HP.out.none_ rfl
      rw[hz] at*
      have Hp:(bg []).length<maxLen:=by unfold maxLen bg;simp
      clear hln h4 AZ
      unfold aN eJ c_ at hM
      simp only at hM
      go_enter Tryz.func150,Tryz.ntmps150
      (refine qw ?_;intros;rename_i hM)
      ((first|refine St.lookup rfl hM rfl rfl rfl rfl qm zq Tryz.underlying150 zy (keyOf_int_mk Tryz.underlying3 (by assumption)) ((Zf _ _).trans (by first|assumption|rfl)) ?_|refine St.lookup1 rfl rfl rfl rfl qm zq Tryz.underlying150 zy (keyOf_int_mk Tryz.underlying3 (by assumption)) ((Zf _ _).trans (by first|assumption|rfl)) ?_|refine St.bI rfl rfl rfl rfl rfl Tryz.underlying150 Tryz.underlying3 zy ?_|refine St.bl rfl rfl rfl rfl Tryz.underlying150 Tryz.underlying3 zy ?_);(refine qq ?_))
      (refine qw ?_;intros;rename_i hM)
      (refine St.lC rfl rfl rfl rfl rfl Tryz.underlying150 ?_;(refine qq ?_))
      (refine qw ?_;intros;rename_i hM)
      refine St.makeMap (kt:=3) rfl hM rfl rfl (fun w=> ?_) ?_
      ·go_simp
       simp[Instr.makeMap,newObj,Sem.run]
      clear hM;intro w hb0 hM
      (refine qq ?_)
      (refine qw ?_;intros;rename_i hM)
      (refine St.mapUpdate rfl hM rfl rfl rfl rfl rfl qm (Az [] p (t.last+1)) zq Tryz.underlying150 (by assumption) (keyOf_int_mk Tryz.underlying3 (by assumption)) ?_ ?_;(focus(first|(intro h;cases h;done)|(intro _;repeat(first|exact Rest.here (Sub.all _)|exact Rest.here Sub.nil|apply Rest.take|apply Rest.skip))));clear hM;intro w hM;(refine qq ?_))
      (refine qw ?_;intros;rename_i hM)
      (refine qf ?_)
      exact⟨rfl,⟨b,some hb0⟩,rfl,nofun,hM.perm (L':=aN ⟨b,some hb0⟩ ⟨Pc.put [] p (t.last+1),t.last+1⟩) (List.Perm.swap _ _ _)⟩
     |some mb=>
      unfold aN eJ c_ at hM
      simp only at hM
      clear hln
      go_enter Tryz.func150,Tryz.ntmps150
      (refine qw ?_;intros;rename_i hM)
      ((first|refine St.lookup rfl hM rfl rfl rfl rfl qm zq Tryz.underlying150 zy (keyOf_int_mk Tryz.underlying3 (by assumption)) ((Zf _ _).trans (by first|assumption|rfl)) ?_|refine St.lookup1 rfl rfl rfl rfl qm zq Tryz.underlying150 zy (keyOf_int_mk Tryz.underlying3 (by assumption)) ((Zf _ _).trans (by first|assumption|rfl)) ?_|refine St.bI rfl rfl rfl rfl rfl Tryz.underlying150 Tryz.underlying3 zy ?_|refine St.bl rfl rfl rfl rfl Tryz.underlying150 Tryz.underlying3 zy ?_);(refine qq ?_))
      (refine qw ?_;intros;rename_i hM)
      ((first|refine St.lr rfl hM rfl rfl rfl qm Tryz.underlying150 ?_|refine St.jR rfl rfl rfl qm Tryz.underlying150 ?_);(refine qq ?_))
      (refine qw ?_;intros;rename_i hM)
      (refine St.lC rfl rfl rfl rfl rfl Tryz.underlying150 ?_;(refine qq ?_))
      (refine qw ?_;intros;rename_i hM)
      (refine St.mapUpdate rfl hM rfl rfl rfl rfl rfl qm (Az t.aa p (t.last+1)) zq Tryz.underlying150 (by assumption) (keyOf_int_mk Tryz.underlying3 (by assumption)) ?_ ?_;(focus(first|(intro h;cases h;done)|(intro _;repeat(first|exact Rest.here (Sub.all _)|exact Rest.here Sub.nil|apply Rest.take|apply Rest.skip))));clear hM;intro w hM;(refine qq ?_))
      (refine qw ?_;intros;rename_i hM)
      (refine qf ?_)
      exact⟨rfl,⟨b,some mb⟩,rfl,nofun,hM⟩
   ·have hS:Pc.spawn t p=((0,4),t):=by
     rw[if_pos (by rw[hB];exact h3)] at hE0
     unfold Pc.spawn
     rw[hE0,if_neg (by decide)]
    rw[hS]
    simp only
    clear hS hE0
    have hq:(B==0)=false:=qne.2 h3
    have mW:(B != 0)=true:=bne_iff_ne.2 h3
    cases m with
    |none=>exact absurd (by rw[←hB,HP.out.none_ rfl];rfl) h3
    |some mb=>
     unfold aN eJ c_ at hM
     simp only at hM
     go_enter Tryz.func150,Tryz.ntmps150
     (refine qw ?_;intros;rename_i hM)
     ((first|refine St.lookup rfl hM rfl rfl rfl rfl qm zq Tryz.underlying150 zy (keyOf_int_mk Tryz.underlying3 (by assumption)) ((Zf _ _).trans (by first|assumption|rfl)) ?_|refine St.lookup1 rfl rfl rfl rfl qm zq Tryz.underlying150 zy (keyOf_int_mk Tryz.underlying3 (by assumption)) ((Zf _ _).trans (by first|assumption|rfl)) ?_|refine St.bI rfl rfl rfl rfl rfl Tryz.underlying150 Tryz.underlying3 zy ?_|refine St.bl rfl rfl rfl rfl Tryz.underlying150 Tryz.underlying3 zy ?_);(refine qq ?_))
     (refine qw ?_;intros;rename_i hM)
     (refine qf ?_)
     exact⟨rfl,⟨b,some mb⟩,rfl,nofun,hM⟩
end
end
section
open Go.RowKit Go.Maps
structure cO where
 b:Nat
 P:dL
 X:cI
def aP(b p d:Nat):Ent:=(b,true,.cells [.pointer (some ⟨p,0,none⟩),.pointer (some ⟨d,0,none⟩)] 105)
def aK(x:cO)(β γ:Int→Nat×Nat)(W:aB):List Ent:=aP x.b x.P.b x.X.b::(aN x.P W.p++bp x.X β γ W.d)
structure eX (x:cO) (W:aB):Prop where
 gD:fO x.X W.d
 bV:x.P.m=none→W.p.aa=[]
theorem zC(x:cO)(β γ:Int→Nat×Nat)(W:aB):zO (aK x β γ W):=fun y hy=>by
 unfold aK at hy
 rcases laBz.1 hy with rfl|hy
 ·rfl
 rcases laAz.1 hy with hy|hy
 ·exact Zs _ _ y hy
 ·exact yE _ _ _ _ y hy
structure aC (N:Nat) (x:cO) (β γ:Int→Nat×Nat) (W:aB) (w:World):Prop where
 at_:At (aK x β γ W) w
 ok:eX x W
 inv:Wd.Inv N W
 mx:Mx w
 zero:0∉ze (aK x β γ W)
def oe(w:World)(x:cO)(β γ:Int→Nat×Nat)(W:aB)(w':World)(W':aB):Prop:= ∃ x' β' γ',cO.b x'=x.b∧eX x' W'∧St w (ze (aK x β γ W)) w' (aK x' β' γ' W')
section
variable {N:Nat}{x:cO}{β γ:Int→Nat×Nat}{W:aB}{w w' w0:World}{F:List Nat}{L L' M M':List Ent}{b p d:Nat}
theorem St.fj(hM:St w0 F w L)(hs:Part L (aK x β γ W))(hk:eX x W)(hI:Wd.Inv N W)(hm:Mx w0)(h0:0∉F):aC N x β γ W w:=by
 refine⟨hM.part hs,hk,hI,hM.mx hm h0,fun h=> ?_⟩
 obtain⟨y,hy,e⟩:=laKz.1 h
 obtain⟨A,B,rfl⟩:=hs.split
 rcases hM.own y (by simp[hy]) (zC x β γ W y hy) with h1|h1
 ·rw[e] at h1;exact h0 h1
 ·have:=hm.pos
  omega
theorem aC.row(h:aC N x β γ W w):(aP x.b x.P.b x.X.b).2.2.holds w.heap[x.b]? :=h.at_.has (aP x.b x.P.b x.X.b) (by unfold aK;exact .head _)
theorem Hq:(aN x.P W.p).Sublist (aK x β γ W):=by
 unfold aK
 exact(lbAz _ _).cons _
theorem A0:(bp x.X β γ W.d).Sublist (aK x β γ W):=by
 unfold aK
 exact(laFz _ _).cons _
theorem aC.bV(h:aC N x β γ W w):bf x.P W.p w:=⟨h.at_.sub Hq,h.ok.bV,h.inv.fit⟩
theorem aC.gD(h:aC N x β γ W w):cw N x.X β γ W.d w:=⟨h.at_.sub A0,h.ok.gD,h.inv.aG,h.mx,Ys A0 h.zero⟩
theorem aC.below(h:aC N x β γ W w)(hb:Below w.heap.size w w'):aC N x β γ W w':=⟨h.at_.below hb,h.ok,h.inv,h.mx.below hb,h.zero⟩
theorem ZL(h:(aP b p d).2.2.holds w.heap[b]?):Calls Tryz.prog 94 #[.pointer (some ⟨b,0,none⟩)] w fun e w'=>e= .returned (.bool true)∧w=w':=by
 have hM:=St.one h
 clear h
 unfold aP at hM
 go_enter Tryz.func94,Tryz.ntmps94
 (refine qw ?_;intros;rename_i hM)
 (refine qf ?_)
 exact⟨rfl,rfl⟩
theorem A1(q:Int)(w:World)(hq:In.newE q=0)(hX:Mx w):Calls Tryz.prog 45 #[.int .i64 q] w fun e w'=> ∃ x β γ,e= .returned (.tuple #[.pointer (some ⟨cO.b x,0,none⟩),.int .i64 0])∧eX x (Wd.new q)∧St w [] w' (aK x β γ (Wd.new q)):=by
 have hM:=St.start w []
 have HX:=qh hX
 have F0:0∉([]:List Nat):=nofun
 have CN:=qh (fun (W:World) (h:Mx W)=>Fb q W hq h)
 clear hq hX
 go_enter Tryz.func45,Tryz.ntmps45
 (repeat(first|(refine qW ?_;intros;rename_i hM)|(refine qMk ?_;clear hM;intro w bk hM)))
 (refine qKx ?_;intro R hR)
 refine(CN.out _ (hM.mx HX.out F0)).mono ?_
 rintro e w' ⟨X,β,γ,rfl,hk,hN⟩
 replace hM:=hM.madeM hN (yE _ _ _ _)
 refine hR.out _ _ (fun h=>h.below hN.to_below) ?_;clear hR R hN
 (refine qq ?_)
 try(refine qW ?_;clear hM;intros;rename_i hM)
 ((refine qMk ?_);clear hM;intro w pb hM)
 (repeat(first|(refine qW ?_;intros;rename_i hM)|(refine qMk ?_;clear hM;intro w bk hM)))
 (refine qf ?_)
 rw[laYz] at hM
 exact⟨⟨bk,⟨pb,none⟩,X⟩,β,γ,rfl,⟨hk,fun _=>rfl⟩,hM⟩
theorem Xr(h:(aP b p d).2.2.holds w.heap[b]?){P:dL}{t:aT}(hP:bf P t w)(hp:P.b=p){pid:Int}(hf:Fits pid):An 49 #[.pointer (some ⟨b,0,none⟩),.int .i64 pid] w (.tuple #[.int .i64 (Pc.birth t.aa pid),.int .i64 (Pc.bd t pid)]):=by
 have hM:=St.one h
 have HW:=qh h
 have HP:=qh hP
 subst hp
 clear h hP
 have C:=qh (fun (W:World) (h:bf P t W)=>Xt h hf)
 generalize Pc.birth t.aa pid=B at*
 generalize Pc.bd t pid=E at*
 unfold aP at hM
 go_enter Tryz.func49,Tryz.ntmps49
 (refine qw ?_;intros;rename_i hM)
 (refine qKx ?_;intro R hR)
 refine(ZL (hM.only.holds HW.out)).mono ?_
 (refine qgs ?_;clear hR R)
 (refine qw ?_;intros;rename_i hM)
 (refine qKx ?_;intro R hR)
 refine(C.out _ (HP.out.below hM.to_below)).mono ?_
 rintro e w' ⟨rfl,hb⟩;replace hM:=hM.below hb;refine qho ?_;clear hR R hb;(refine qq ?_)
 exact qwf
theorem Hr(h:aC N x β γ W w):An 55 #[.pointer (some ⟨x.b,0,none⟩)] w (.int .i64 W.d.now.t.used):=by
 have hM:=St.one h.row
 have HW:=qh h
 unfold aP at hM
 go_enter Tryz.func55,Tryz.ntmps55
 (refine qw ?_;intros;rename_i hM)
 (refine qKx ?_;intro R hR)
 refine(ZL (hM.only.holds HW.out.row)).mono ?_
 (refine qgs ?_;clear hR R)
 (refine qw ?_;intros;rename_i hM)
 (refine qKx ?_;intro R hR)
 have HD:=(HW.out.below hM.to_below).gD
 refine(E_ HD.row HD.now).mono ?_
 rintro e w' ⟨rfl,hb⟩;replace hM:=hM.below hb;refine qho ?_;clear hR R hb;(refine qq ?_)
 exact qwf
theorem A2(h:aC N x β γ W w)(hN:N≤1000000):Calls Tryz.prog 48 #[.pointer (some ⟨x.b,0,none⟩)] w (yn (Fs.files W.d.now) w):=by
 have hM:=St.one h.row
 have HW:=qh h
 unfold aP at hM
 go_enter Tryz.func48,Tryz.ntmps48
 (refine qw ?_;intros;rename_i hM)
 (refine qKx ?_;intro R hR)
 refine(ZL (hM.only.holds HW.out.row)).mono ?_
 (refine qgs ?_;clear hR R)
 (refine qw ?_;intros;rename_i hM)
 (refine qKx ?_;intro R hR)
 have HD:=(HW.out.below hM.to_below).gD
 refine(Fa HD.row HD.now HD.inv.now.up hN).mono ?_
 rintro e w' ⟨s1,rfl,hk,hN2⟩
 replace hM:=hM.madeM hN2 (zo _ _ _ _)
 refine hR.out _ _ (fun h=>⟨hM.only,nofun⟩) ?_;clear hR R hN2;(refine qq ?_)
 (refine qw ?_;intros;rename_i hM)
 (refine qf ?_)
 exact⟨s1,rfl,hk,St.front hM⟩
theorem Xp(h:aC N x β γ W w)(hN:N≤1000000000){pid:Int}(hp:Fits pid):Calls Tryz.prog 91 #[.pointer (some ⟨x.b,0,none⟩),.int .i64 pid] w fun e w'=>e= .returned (.tuple #[.int .i64 (Pc.spawn W.p pid).1.1,.int .i64 (Pc.spawn W.p pid).1.2])∧oe w x β γ W w' (Wd.spawn W pid):=by
 have hM:=h.at_.st
 unfold oe
 obtain⟨F,hF⟩: ∃ F,ze (aK x β γ W)=F:=⟨_,rfl⟩
 rw[hF] at hM ⊢
 have hl:W.p.last≤1000000000:=by have:=h.inv.last;omega
 have HK:=qh h.ok
 have HT:=qh h.inv.fit
 clear h hF
 have C:=qh (fun (w1:World) (h:bf x.P W.p w1)=>Hn h hl hp)
 unfold Wd.spawn
 generalize Pc.spawn W.p pid=r at*
 obtain⟨⟨r1,r2⟩,t'⟩:=r
 simp only at C ⊢
 unfold aK aP at hM
 go_enter Tryz.func91,Tryz.ntmps91
 (refine qw ?_;intros;rename_i hM)
 (refine qKx ?_;intro R hR)
 refine(ZL (hM.holds (aP x.b x.P.b x.X.b) qm)).mono ?_
 (refine qgs ?_;clear hR R)
 (refine qw ?_;intros;rename_i hM)
 (refine qKx ?_;intro R hR)
 refine(C.out _ ⟨hM.part qpt,HK.out.bV,HT.out⟩).mono ?_
 rintro e w' ⟨rfl,P',hb,hz,hN2⟩
 replace hM:=hM.backM qsw (Zs _ _) hN2 (Zs _ _)
 refine qho ?_;clear hR R hN2 C
 (refine qq ?_)
 (refine qw ?_;intros;rename_i hM)
 (refine qf ?_)
 refine⟨rfl,⟨x.b,P',x.X⟩,β,γ,rfl,⟨HK.out.gD,hz⟩, ?_⟩
 show St _ F _ (aP x.b P'.b x.X.b::_)
 rw[hb]
 exact hM
theorem A3(h:aC N x β γ W w)(hN:N≤999999980){pid:Int}(hp:Fits pid):Calls Tryz.prog 93 #[.pointer (some ⟨x.b,0,none⟩),.int .i64 pid] w fun e w'=>e= .returned (.int .i64 (Wd.kill W pid).1)∧oe w x β γ W w' (Wd.kill W pid).2:=by
 have hM:=h.at_.st
 unfold oe
 obtain⟨F,hF⟩: ∃ F,ze (aK x β γ W)=F:=⟨_,rfl⟩
 rw[hF] at hM ⊢
 have F0:0∉F:=hF▸h.zero
 have HK:=qh h.ok
 have HT:=qh h.inv
 have HX:=qh h.mx
 have lB:=Wd.br h.inv hN pid
 clear h hF
 have C:=qh (fun (w1:World) (h:bf x.P W.p w1)=>fun h2=>Xr (b:=x.b) (d:=x.X.b) h2 h rfl hp)
 have CK:=qh (fun (w1:World) (h:bf x.P W.p w1)=>Hl h hp)
 unfold Pc.bd at C
 unfold Wd.kill
 unfold aK aP at hM
 by_cases h0:Pc.birth W.p.aa pid=0
 ·rw[if_pos h0] at C ⊢
  rw[h0] at C
  go_enter Tryz.func93,Tryz.ntmps93
  (refine qw ?_;intros;rename_i hM)
  (refine qKx ?_;intro R hR)
  refine(C.out _ ⟨hM.part qpt,HK.out.bV,HT.out.fit⟩ (hM.holds (aP x.b x.P.b x.X.b) qm)).mono ?_
  rintro e w' ⟨rfl,hb⟩;replace hM:=hM.below hb;refine qho ?_;clear hR R hb;(refine qq ?_)
  (refine qw ?_;intros;rename_i hM)
  (refine qf ?_)
  exact⟨rfl,x,β,γ,rfl,HK.out,hM⟩
 ·rw[if_neg h0] at C ⊢
  simp only
  have hkl:(Pc.kill W.p pid).1=0:=by unfold Pc.kill;rw[if_neg h0]
  rw[hkl] at CK
  clear hkl h0
  have CE:=qh (fun (w1:World) (β γ:Int→Nat×Nat) (h:cw N x.X β γ W.d w1)=>Fl h hN lB)
  generalize Pc.birth W.p.aa pid=B at*
  generalize (Pc.kill W.p pid).2=t' at*
  generalize Ol.exit W.d B=D' at*
  go_enter Tryz.func93,Tryz.ntmps93
  (refine qw ?_;intros;rename_i hM)
  (refine qKx ?_;intro R hR)
  refine(C.out _ ⟨hM.part qpt,HK.out.bV,HT.out.fit⟩ (hM.holds (aP x.b x.P.b x.X.b) qm)).mono ?_
  rintro e w' ⟨rfl,hb⟩;replace hM:=hM.below hb;refine qho ?_;clear hR R hb;(refine qq ?_)
  (refine qw ?_;intros;rename_i hM)
  (refine qKx ?_;intro R hR)
  refine(CE.out _ β γ (hM.gD qpt HK.out.gD HT.out.aG HX.out F0)).mono ?_
  rintro e w' ⟨rfl,X',β',γ',hb,hk,hN2⟩
  replace hM:=hM.backM (.skip (.past .all)) (yE _ _ _ _) hN2 (yE _ _ _ _)
  refine qho ?_;clear hR R hN2 CE
  (refine qq ?_)
  (refine qw ?_;intros;rename_i hM)
  (refine qKx ?_;intro R hR)
  refine(CK.out _ ⟨hM.part (.skip .here),HK.out.bV,HT.out.fit⟩).mono ?_
  rintro e w' ⟨rfl,P',hb2,hz,hN2⟩
  replace hM:=hM.backM (.skip .here) (Zs _ _) hN2 (Zs _ _)
  refine qho ?_;clear hR R hN2 CK
  (refine qq ?_)
  (refine qw ?_;intros;rename_i hM)
  (refine qf ?_)
  refine⟨rfl,⟨x.b,P',X'⟩,β',γ',rfl,⟨hk,hz⟩, ?_⟩
  show St _ F _ (aP x.b P'.b X'.b::_)
  rw[hb2,hb]
  exact hM
end
end
section
open Go.RowKit Go.Maps Go.Shelf
open Go.Sort in
theorem Ht(l:List (Int×Int)):intKeys (Zh (bg l))=l.map Prod.fst:=by
 simp[Zh,bg,intKeys,Go.intOf]
theorem A4(mb:Option Nat)(W:World):Calls Tryz.prog 155 #[.map mb] W fun e w'=>e= .returned (.func (.func 190) #[] #[.pointer (some ⟨W.heap.size,0,none⟩)])∧w'=W.alloc (.cells #[.map mb] 150):=
 (callsIn_wide (n:=5)).1 (AnyZI.keys_in Tryz.keysN Fence.wide 5 trivial rfl mb W)
open Go.Sort in
theorem Hu{m:Nat}{l:List (Int×Int)}(w:World)(h:zA Tryz.prog 3 w m (bg l))(hl:l.length≤4611686018427):
  Calls Tryz.prog 72 #[.func (.func 190) #[] #[.pointer (some ⟨w.heap.size,0,none⟩)]] (w.alloc (.cells #[.map (some m)] 150)) fun e w'=> ∃ v:Value,e= .returned v∧
   w'.ownsRow (w.heap.size+1) 3 1 v l.length ((l.map Prod.fst).map (Value.int .i64))∧Below w.heap.size w w':=by
 have hbl:=zA.lt h
 have hsz:Maps.size (Zh (bg l))=l.length:=by rw[yl];simp[bg]
 have hown:w.ownsMap Tryz.prog 3 Ze m (bg l).length (Zh (bg l)):=h
 have hseq:SeqGives Fence.wide 2 Tryz.prog 190 #[.pointer (some ⟨w.heap.size,0,none⟩)] encZ (fun ss=>ss.Perm (intKeys (Zh (bg l)))) (Maps.size (Zh (bg l))) (w.alloc (.cells #[.map (some m)] 150)):=
  AnyZI.keys_gives (ρ:=Tryz.keysN_ren) {Tryz.keysN with} Fence.wide _ trivial rfl (by omega) w.heap.size m _ _ _ (by simp) (by simp) (by
   obtain⟨es,clock,hb,Ft,hs,hD⟩:=hown
   exact⟨es,clock,(Below.heap_alloc _ _ m hbl).trans hb,Ft,hs,hD⟩)
 have key:=AnyZI.sorted_in Tryz.sortedI Fence.wide 5 trivial trivial trivial trivial rfl (by omega) (zgI _) (enters_of Tryz.func124 (by kernel_rfl) rfl) 190 #[.pointer (some ⟨w.heap.size,0,none⟩)] trivial (enters_of Tryz.func190 (by kernel_rfl) rfl) _ _ (by rw[hsz,zj];omega) (by rw[hsz];omega) _ hseq
 refine((callsIn_wide (n:=5)).1 key).mono fun e w' hx=> ?_
 obtain⟨v,ss,he,hp,hrow,_,hb⟩:=hx
 refine⟨v,he, ?_,((Below.refl _ w).alloc (Nat.le_refl _) _).trans (hb.mono (by simp))⟩
 rw[Ht] at hp
 have hs:(l.map Prod.fst).Pairwise fun a b=>a<b:=by
  have:=zA.sorted h zq
  unfold bg at this
  rw[lcJz] at this ⊢
  exact this.imp fun h=>by simpa[Lit.before] using h
 have e:=zbw hp hs
 have hlen:ss.length=l.length:=by rw[hp.length_eq];simp
 rw[show(fun x y:Int=>decide (x≤y))=leI from rfl,e,hlen] at hrow
 rw[zH] at hrow
 exact hrow
theorem Hv(w:World):
  Calls Tryz.prog 72 #[.func (.func 190) #[] #[.pointer (some ⟨w.heap.size,0,none⟩)]] (w.alloc (.cells #[.map none] 150)) fun e w'=> ∃ v:Value,e= .returned v∧
   w'.ownsRow (w.heap.size+1) 3 1 v 0 []∧Below w.heap.size w w':=by
 have hseq:SeqGives Fence.wide 2 Tryz.prog 190 #[.pointer (some ⟨w.heap.size,0,none⟩)] encZ (fun ss=>ss=[]) 0 (w.alloc (.cells #[.map none] 150)):=
  AnyZI.keys_gives_nil (ρ:=Tryz.keysN_ren) {Tryz.keysN with} Fence.wide _ trivial rfl w.heap.size _ (by simp) (cell_of_row _ _ _ _ _ _ (heap_alloc_new _ _))
 have key:=AnyZI.sorted_in Tryz.sortedI Fence.wide 5 trivial trivial trivial trivial rfl (by omega) (zgI _) (enters_of Tryz.func124 (by kernel_rfl) rfl) 190 #[.pointer (some ⟨w.heap.size,0,none⟩)] trivial (enters_of Tryz.func190 (by kernel_rfl) rfl) _ _ (Nat.zero_le _) (by omega) _ hseq
 refine((callsIn_wide (n:=5)).1 key).mono fun e w' hx=> ?_
 obtain⟨v,ss,he,rfl,hrow,_,hb⟩:=hx
 refine⟨v,he, ?_,((Below.refl _ w).alloc (Nat.le_refl _) _).trans (hb.mono (by simp))⟩
 rw[zH] at hrow
 simp only[List.mergeSort_nil,lbBz,lcGz] at hrow
 exact hrow
section
variable {x:dL}{t:aT}{w w' w0:World}{F:List Nat}{L:List Ent}
theorem Hw(h:bf x t w):Calls Tryz.prog 101 #[.pointer (some ⟨x.b,0,none⟩)] w (rC (Pc.fR t) w):=by
 have hM:=h.at_.ro
 unfold aN eJ at hM
 simp only[laDz,zx] at hM
 have HA:=qh h.at_
 have hn:=h.none_
 have hf:=h.fit.few
 have e1:t.aa.length=(t.aa.map Prod.fst).length:=by simp
 obtain⟨b,m⟩:=x
 simp only at hM hn
 clear h
 unfold Pc.fR
 cases m with
 |none=>
  obtain hz:t.aa=[]:=hn rfl
  rw[hz]
  clear hz hn e1 hf HA
  simp only[c_,lbBz] at hM
  go_enter Tryz.func101,Tryz.ntmps101
  (refine qw ?_;intros;rename_i hM)
  (refine qKx ?_;intro R hR)
  refine(A4 _ _).mono ?_
  rintro e w' ⟨rfl,rfl⟩
  refine hR.out _ _ (fun h=>h.below ((Below.refl _ w).alloc (Nat.le_refl _) _)) ?_;clear hR R;(refine qq ?_)
  (refine qKx ?_;intro R hR)
  refine(Hv w).mono ?_
  rintro e w' ⟨v,rfl,hrow,hb⟩
  obtain⟨s,rfl,hok,hst⟩:=Yi hrow hb (Nat.le_succ _)
  replace hM:=hM.madeM hst (zo _ _ _ _)
  have HOK:=qh hok
  refine hR.out _ _ (fun h=>⟨hM.only,nofun⟩) ?_;clear hR R hrow hok;(refine qq ?_)
  (refine qw ?_;intros;rename_i hM)
  (refine qf ?_)
  exact⟨s,rfl,HOK.out,hst⟩
 |some mb=>
  clear hn
  have HMP:=qh (ZU (HA.out.has (mb,true,mapR Tryz.prog 3 (bg t.aa)) (by unfold aN c_;exact .tail _ (.head _))))
  simp only[c_,laDz,lbBz,zx] at hM
  go_enter Tryz.func101,Tryz.ntmps101
  (refine qw ?_;intros;rename_i hM)
  (refine qKx ?_;intro R hR)
  refine(A4 _ _).mono ?_
  rintro e w' ⟨rfl,rfl⟩
  refine hR.out _ _ (fun h=>h.below ((Below.refl _ w).alloc (Nat.le_refl _) _)) ?_;clear hR R;(refine qq ?_)
  (refine qKx ?_;intro R hR)
  refine(Hu w HMP.out (by omega)).mono ?_
  rintro e w' ⟨v,rfl,hrow,hb⟩
  obtain⟨s,rfl,hok,hst⟩:=Yi hrow hb (Nat.le_succ _)
  replace hM:=hM.madeM hst (zo _ _ _ _)
  have HOK:=qh hok
  refine hR.out _ _ (fun h=>⟨hM.only,nofun⟩) ?_;clear hR R hrow hok;(refine qq ?_)
  (refine qw ?_;intros;rename_i hM)
  (refine qf ?_)
  have h2:=HOK.out
  rw[e1] at h2
  refine⟨s, ?_,h2,hst⟩
  show Ending.returned (slV s t.aa.length)= .returned (slV s (t.aa.map Prod.fst).length)
  rw[←e1]
theorem Hx{b:Nat}{l:List (Lit×Value)}(h:(mapR Tryz.prog 3 l).holds w.heap[b]?):Calls Tryz.prog 156 #[.map (some b)] w fun e w'=> ∃ c,e= .returned (.map (some c))∧St w [] w' [(c,true,mapR Tryz.prog 3 l)]:=by
 have hm:=ZU h
 have lW:=hm
 obtain⟨es,clock,hb,-⟩:=lW
 refine(AnyW.maps_Clone Tryz.cloneN b es clock w hb).mono ?_
 rintro e w' ⟨rfl,rfl⟩
 exact⟨_,rfl,sP hb hm⟩
theorem Hy(h:bf x t w):Calls Tryz.prog 102 #[.pointer (some ⟨x.b,0,none⟩)] w fun e w'=> ∃ x',e= .returned (.pointer (some ⟨dL.b x',0,none⟩))∧(x'.m=none→t.aa=[])∧St w [] w' (aN x' t):=by
 have hM:=h.at_.ro
 unfold aN eJ at hM
 simp only[laDz,zx] at hM
 have HA:=qh h.at_
 have hn:=h.none_
 obtain⟨b,m⟩:=x
 simp only at hM hn
 clear h
 cases m with
 |none=>
  simp only[c_,lbBz] at hM
  have HN:=qh (hn rfl)
  clear hn
  go_enter Tryz.func102,Tryz.ntmps102
  (repeat(first|(refine qW ?_;intros;rename_i hM)|(refine qMk ?_;clear hM;intro w bk hM)))
  (refine qKx ?_;intro R hR)
  refine(AnyW.maps_Clone_nil Tryz.cloneN _).mono ?_
  rintro e w' ⟨rfl,rfl⟩
  refine hR.out _ _ (fun h=>h) ?_;clear hR R;(refine qq ?_)
  (repeat(first|(refine qW ?_;intros;rename_i hM)|(refine qMk ?_;clear hM;intro w bk hM)))
  (refine qf ?_)
  exact⟨⟨bk,none⟩,rfl,fun _=>HN.out,St.front (M:=[_]) hM⟩
 |some mb=>
  clear hn
  have HMP:=qh (HA.out.has (mb,true,mapR Tryz.prog 3 (bg t.aa)) (by unfold aN c_;exact .tail _ (.head _)))
  simp only[c_,laDz,lbBz,zx] at hM
  go_enter Tryz.func102,Tryz.ntmps102
  (repeat(first|(refine qW ?_;intros;rename_i hM)|(refine qMk ?_;clear hM;intro w bk hM)))
  (refine qKx ?_;intro R hR)
  refine(Hx (hM.only.holds HMP.out)).mono ?_
  rintro e w' ⟨c,rfl,hN⟩
  replace hM:=hM.madeM hN (oF _ _)
  refine hR.out _ _ (fun h=>h.below hN.to_below) ?_;clear hR R hN;(refine qq ?_)
  simp only[laIz,laJz] at hM
  (repeat(first|(refine qW ?_;intros;rename_i hM)|(refine qMk ?_;clear hM;intro w bk hM)))
  (refine qf ?_)
  exact⟨⟨bk,some c⟩,rfl,nofun,St.front (M:=[_,_]) hM⟩
end
end
section
open Go.RowKit Go.Maps
section
variable {N:Nat}{x:cO}{β γ:Int→Nat×Nat}{W:aB}{w w' w0:World}{F:List Nat}{A L L' M M' R:List Ent}{b p d:Nat}{e:Ent}
theorem At.stM(h:At (A++M) w):St w (ze M) w (A.map zx++M):=by
 refine⟨Only.refl _ w,fun z hz=> ?_, ?_,fun z hz h1=> ?_⟩
 ·rcases laAz.1 hz with hz|hz
  ·obtain⟨y,hy,rfl⟩:=laKz.1 hz
   exact h.has y (laEz _ hy)
  ·exact h.has z (laCz _ hz)
 ·have:=h.nd
  unfold ze at this
  rw[laMz] at this ⊢
  rw[lbZz]
  exact this
 ·rcases laAz.1 hz with hz|hz
  ·obtain⟨y,hy,rfl⟩:=laKz.1 hz
   cases h1
  ·exact .inl (laLz hz)
theorem At.read(h:At (e::R) w0)(hM:St w0 F w L)(he:e∈L)(hF: ∀ k∈ze R,k∉F):At (e::R) w:=by
 refine⟨fun z hz=> ?_,h.nd⟩
 rcases laBz.1 hz with rfl|hz
 ·exact hM.holds _ he
 ·rw[hM.only.block z.1 (h.has.lt (.tail _ hz)) (hF z.1 (laLz hz))]
  exact h.has z (.tail _ hz)
theorem A5{P:dL}{t:aT}{b db:Nat}{f:Nat}{y:FsX}{γ:Int→Nat×Nat}{D:ar}{s:Option (Nat×Nat)}{zs:List aj}
  (hA:At (aP b P.b db::(aN P t++(au db f y.f s zs.length::(aS s (zs.map aj.val)++(fsL y γ D.base++zs.flatMap aj.ents))))) w0)
  (hp:P.m=none→t.aa=[]) (ht:Pc.Fit t) (hk:SlOK s zs.length (zs.map aj.val) 1) (hz:zs.map (·.1)=D.log) {K0:Nat} (hB:Ol.aH K0 D.base) (tN:K0+3*D.log.length≤30000) (hok: ∀ l∈D.log,Ol.fF l) (hX:Mx w0)
  (h0:0∉ze (aP b P.b db::(aN P t++(au db f y.f s zs.length::(aS s (zs.map aj.val)++(fsL y γ D.base++zs.flatMap aj.ents)))))) (keep:Int):
  Calls Tryz.prog 92 #[.pointer (some ⟨b,0,none⟩),.int .i64 keep] w0 fun e w'=>e= .returned (.int .i64 0)∧ ∃ P' x1 β1 x2 β2,dL.b P'=P.b∧St w0 (ze (aN P t++[au db f y.f s zs.length])) w' (aN P' (Pc.bU t)++(au db (FsX.f x1) (FsX.f x2) none 0::(fsL x1 β1 (Ol.aW D keep)++fsL x2 β2 (Ol.aW D keep)))):=by
 have hR0:At (au db f y.f s zs.length::(aS s (zs.map aj.val)++(fsL y γ D.base++zs.flatMap aj.ents))) w0:=hA.sub ((laFz _ _).cons _)
 have um:0∉ze (au db f y.f s zs.length::(aS s (zs.map aj.val)++(fsL y γ D.base++zs.flatMap aj.ents))):=Ys ((laFz _ _).cons _) h0
 have hS1:([aP b P.b db]++(aN P t++[au db f y.f s zs.length])).Sublist (aP b P.b db::(aN P t++(au db f y.f s zs.length::(aS s (zs.map aj.val)++(fsL y γ D.base++zs.flatMap aj.ents))))):=((lbAz [au db f y.f s zs.length] _).append_left _).cons_cons _
 have hM:=(hA.sub hS1).stM
 have hF: ∀ k∈ze (aS s (zs.map aj.val)++(fsL y γ D.base++zs.flatMap aj.ents)),k∉ze (aN P t++[au db f y.f s zs.length]):=fun k hk hm=>by
  have hnd:=hA.nd
  unfold ze at hnd hm hk
  rw[laDz,laTz] at hnd
  have h2:=hnd.2
  rw[laMz,laDz,laSz] at h2
  rw[laMz,laAz] at hm
  rcases hm with hm|hm
  ·exact h2.2.2 k hm k (.tail _ hk) rfl
  ·rw[ldDz,laGz] at hm
   rw[hm] at hk
   exact(laTz.1 h2.2.1).1 hk
 obtain⟨F,uo⟩: ∃ F,ze (aN P t++[au db f y.f s zs.length])=F:=⟨_,rfl⟩
 rw[uo] at hM hF ⊢
 have F0:0∉F:=by rw[←uo];exact Ys ((laFz _ _).trans hS1) h0
 have HR:=qh hR0
 have HF:=qh hF
 have HX:=qh hX
 have Jl:=qh um
 have C:=qh (fun (w1:World) (h1:At (au db f y.f s zs.length::(aS s (zs.map aj.val)++(fsL y γ D.base++zs.flatMap aj.ents))) w1) (hm:Mx w1)=>GD h1 hk hz hB tN hok hm um keep)
 have HP:=qh hp
 have HT:=qh ht
 clear hR0 um hS1 hF hX hp ht hA h0 uo hz hB tN hok
 simp only[laDz,lbBz,zx,lcSz] at hM
 go_enter Tryz.func92,Tryz.ntmps92
 (refine qw ?_;intros;rename_i hM)
 (refine qKx ?_;intro R hR)
 refine(ZL (hM.holds (zx (aP b P.b db)) qm)).mono ?_
 (refine qgs ?_;clear hR R)
 unfold aP at hM
 simp only at hM
 (refine qw ?_;intros;rename_i hM)
 (refine qKx ?_;intro R hR)
 refine(Hm ⟨hM.part (.skip .here),HP.out,HT.out⟩).mono ?_
 rintro e w' ⟨rfl,P',hb2,hz,hN2⟩
 replace hM:=hM.backM (.skip .here) (Zs _ _) hN2 (Zs _ _)
 refine qho ?_;clear hR R hN2
 (refine qq ?_)
 (refine qw ?_;intros;rename_i hM)
 (refine qKx ?_;intro R hR)
 refine(C.out _ (HR.out.read hM (.tail _ (laCz _ (.head _))) HF.out) (hM.mx HX.out F0)).mono ?_
 rintro e w' ⟨rfl,x1,β1,x2,β2,hN2⟩
 replace hM:=hM.backM (M:=[au db f y.f s zs.length]) (.skip (.past .all)) (oF _ _) hN2 (fun y hy=>by
  rcases laBz.1 hy with rfl|hy
  ·rfl
  ·rcases laAz.1 hy with hy|hy
   ·exact zr _ _ _ y hy
   ·exact zr _ _ _ y hy)
 refine qho ?_;clear hR R hN2
 (refine qq ?_)
 (refine qw ?_;intros;rename_i hM)
 (refine qf ?_)
 exact⟨rfl,P',x1,β1,x2,β2,hb2,hM.forget⟩
theorem Hz{α:Type}(a d:α)(p f l g e:List α):(a::(p++(d::(f++(l++(g++e)))))).Perm (a::((p++[d])++(f++(l++(g++e))))):=(zV (by intro _ x;simp only[lbKz,laXz,lbEz,lbLz,laIz,laJz];omega))
theorem H0{α:Type}(a d:α)(p f g r:List α):(a::((p++(d::(f++g)))++r)).Perm ((a::(p++(d::(f++([]++(g++[]))))))++r):=(zV (by intro _ x;simp only[lbKz,laXz,lbEz,lbLz,laIz,laJz];omega))
theorem H5(h:aC N x β γ W w)(hN:N≤30000)(keep:Int):Calls Tryz.prog 92 #[.pointer (some ⟨x.b,0,none⟩),.int .i64 keep] w fun e w'=>e= .returned (.int .i64 0)∧oe w x β γ W w' (Wd.fS W keep):=by
 have qu:(aP x.b x.P.b x.X.b::(aN x.P W.p++(au x.X.b x.X.now.f x.X.sure.f x.X.s x.X.zs.length::(aS x.X.s (x.X.zs.map aj.val)++(fsL x.X.sure γ W.d.base++x.X.zs.flatMap aj.ents))))).Sublist (aK x β γ W):=by
  unfold aK bp
  exact(((laFz _ _).cons_cons _).append_left _).cons_cons _
 obtain⟨K0,hB,hK⟩:=h.inv.aG.base
 refine(A5 (h.at_.sub qu) h.ok.bV h.inv.fit h.ok.gD.sl h.ok.gD.log hB (by omega) h.inv.aG.ok h.mx (Ys qu h.zero) keep).mono ?_
 rintro e w' ⟨rfl,P',x1,β1,x2,β2,hb,hN2⟩
 have hM:=h.at_.st
 unfold oe
 obtain⟨F,hF⟩: ∃ F,ze (aK x β γ W)=F:=⟨_,rfl⟩
 rw[hF] at hM ⊢
 unfold aK bp at hM
 replace hM:=hM.perm (Hz _ _ _ _ _ _ _)
 replace hM:=hM.backM (.skip .here) (fun y hy=>by
  rcases laAz.1 hy with hy|hy
  ·exact Zs _ _ y hy
  ·rcases laGz.1 hy with rfl;rfl) hN2 (fun y hy=>by
  rcases laAz.1 hy with hy|hy
  ·exact Zs _ _ y hy
  rcases laBz.1 hy with rfl|hy
  ·rfl
  rcases laAz.1 hy with hy|hy
  ·exact zr _ _ _ y hy
  ·exact zr _ _ _ y hy)
 replace hM:=(hM.perm (H0 _ _ _ _ _ _)).front
 refine⟨rfl,⟨x.b,P',⟨x.X.b,x1,x2,none,[]⟩⟩,β1,β2,rfl,⟨⟨rfl,⟨rfl,rfl⟩⟩,fun _=>rfl⟩, ?_⟩
 show St w F w' (aP x.b P'.b x.X.b::_)
 rw[hb]
 exact hM
def mi(w:World)(x:cO)(β γ:Int→Nat×Nat)(W:aB)(r:ResD×aB)(e:Ending)(w':World):Prop:=
 ∃ s x' β' γ',e= .returned (.agg #[.int .i64 r.1.err,.int .i64 r.1.n,.string r.1.data,slV s r.1.names.length])∧TxOK s r.1.names∧cO.b x'=x.b∧eX x' r.2∧St w (ze (aK x β γ W)) w' (txL s r.1.names++aK x' β' γ' r.2)
theorem H6{α:Type}(a:α)(p t k:List α):(a::(p++(t++k))).Perm (t++(a::(p++k))):=(zV (by intro _ x;simp only[lbKz,laXz,lbEz,lbLz,laIz,laJz];omega))
theorem A6(h:aC N x β γ W w)(hN:N≤999999980){pid:Int}(hp:Fits pid)(op:OpD)(ho:op.Ok)(hop:Fits op.pid):Calls Tryz.prog 51 #[.pointer (some ⟨x.b,0,none⟩),.int .i64 pid,.agg op.cells.toArray] w (mi w x β γ W (Wd.do_ W pid op)):=by
 have hM:=h.at_.st
 unfold mi
 obtain⟨F,hF⟩: ∃ F,ze (aK x β γ W)=F:=⟨_,rfl⟩
 rw[hF] at hM ⊢
 have F0:0∉F:=hF▸h.zero
 have HK:=qh h.ok
 have HT:=qh h.inv
 have HX:=qh h.mx
 have lB:=Wd.br h.inv hN pid
 clear h hF
 have C:=qh (fun (w1:World) (h:bf x.P W.p w1)=>fun h2=>Xr (b:=x.b) (d:=x.X.b) h2 h rfl hp)
 unfold Pc.bd at C
 unfold Wd.do_
 unfold aK aP at hM
 by_cases h0:Pc.birth W.p.aa pid=0
 ·rw[if_pos h0] at C ⊢
  rw[h0] at C
  obtain⟨pk,pp,pd,ph,pa,pn,px,py,pb⟩:=op
  simp only[OpD.cells]
  go_enter Tryz.func51,Tryz.ntmps51
  (refine qw ?_;intros;rename_i hM)
  (refine qKx ?_;intro R hR)
  refine(C.out _ ⟨hM.part qpt,HK.out.bV,HT.out.fit⟩ (hM.holds (aP x.b x.P.b x.X.b) qm)).mono ?_
  rintro e w' ⟨rfl,hb⟩;replace hM:=hM.below hb;refine qho ?_;clear hR R hb;(refine qq ?_)
  (refine qw ?_;intros;rename_i hM)
  (refine qf ?_)
  exact⟨none,x,β,γ,rfl,⟨rfl,rfl⟩,rfl,HK.out,hM.forget.forget⟩
 ·rw[if_neg h0] at C ⊢
  have CE:=qh (fun (w1:World) (β γ:Int→Nat×Nat) (h:cw N x.X β γ W.d w1)=>Fh h hN lB op ho)
  have CA:=qh (fun (w1:World) (h:bf x.P W.p w1)=>Hk (c:=op.birth) h hop)
  generalize Pc.birth W.p.aa pid=B at*
  by_cases h1:op.kind=15
  ·rw[if_pos h1]
   generalize Pc.alive W.p op.pid op.birth=al at*
   obtain⟨pk,pp,pd,ph,pa,pn,px,py,pb⟩:=op
   simp only at h1
   subst h1
   simp only[OpD.cells]
   clear CE h0
   cases al with
   |true=>
    go_enter Tryz.func51,Tryz.ntmps51
    (refine qw ?_;intros;rename_i hM)
    (refine qKx ?_;intro R hR)
    refine(C.out _ ⟨hM.part qpt,HK.out.bV,HT.out.fit⟩ (hM.holds (aP x.b x.P.b x.X.b) qm)).mono ?_
    rintro e w' ⟨rfl,hb⟩;replace hM:=hM.below hb;refine qho ?_;clear hR R hb;(refine qq ?_)
    (refine qw ?_;intros;rename_i hM)
    (refine qCB (CA.out _ ⟨hM.part qpt,HK.out.bV,HT.out.fit⟩) hM ?_;clear hM;intro w' hM)
    (refine qw ?_;intros;rename_i hM)
    (refine qf ?_)
    exact⟨none,x,β,γ,rfl,⟨rfl,rfl⟩,rfl,HK.out,hM.forget.forget⟩
   |false=>
    go_enter Tryz.func51,Tryz.ntmps51
    (refine qw ?_;intros;rename_i hM)
    (refine qKx ?_;intro R hR)
    refine(C.out _ ⟨hM.part qpt,HK.out.bV,HT.out.fit⟩ (hM.holds (aP x.b x.P.b x.X.b) qm)).mono ?_
    rintro e w' ⟨rfl,hb⟩;replace hM:=hM.below hb;refine qho ?_;clear hR R hb;(refine qq ?_)
    (refine qw ?_;intros;rename_i hM)
    (refine qCB (CA.out _ ⟨hM.part qpt,HK.out.bV,HT.out.fit⟩) hM ?_;clear hM;intro w' hM)
    (refine qw ?_;intros;rename_i hM)
    (refine qf ?_)
    exact⟨none,x,β,γ,rfl,⟨rfl,rfl⟩,rfl,HK.out,hM.forget.forget⟩
  ·rw[if_neg h1]
   have hq:(op.kind != 15)=true:=bne_iff_ne.2 h1
   simp only
   obtain⟨r,hr⟩: ∃ r,Ol.do_ W.d B op=r:=⟨_,rfl⟩
   rw[hr] at CE ⊢
   clear CA h0 h1 hr
   obtain⟨pk,pp,pd,ph,pa,pn,px,py,pb⟩:=op
   simp only[OpD.cells] at hq CE ⊢
   go_enter Tryz.func51,Tryz.ntmps51
   (repeat(first|(refine qW0 ?_;clear hM;intros;rename_i hM)|((refine qMk ?_);clear hM;intro w bk hM)|((first|refine qD (id:=5) hM (Sub.skip (Sub.take (Sub.take Sub.nil))) [3] [(0,0),(1,0),(2,0),(3,1),(4,0),(5,2),(6,3),(7,3)] ?_|refine qD (id:=6) hM (Sub.all _) [3,5] [(0,0),(1,0),(2,0),(3,1),(4,0),(5,1),(6,2),(7,2),(8,3),(9,2)] ?_);clear hM;intro w hM Kr hKr)))
   (refine qKx ?_;intro R hR)
   refine(C.out _ ⟨hM.part qpt,HK.out.bV,HT.out.fit⟩ (hM.holds (aP x.b x.P.b x.X.b) qm)).mono ?_
   rintro e w' ⟨rfl,hb⟩;replace hM:=hM.below hb;refine qho ?_;clear hR R hb;(refine qq ?_)
   (repeat(first|(refine qW0 ?_;clear hM;intros;rename_i hM)|((refine qMk ?_);clear hM;intro w bk hM)|((first|refine qD (id:=5) hM (Sub.skip (Sub.take (Sub.take Sub.nil))) [3] [(0,0),(1,0),(2,0),(3,1),(4,0),(5,2),(6,3),(7,3)] ?_|refine qD (id:=6) hM (Sub.all _) [3,5] [(0,0),(1,0),(2,0),(3,1),(4,0),(5,1),(6,2),(7,2),(8,3),(9,2)] ?_);clear hM;intro w hM Kr hKr)))
   (refine qKx ?_;intro R hR)
   refine(CE.out _ β γ (hM.gD qpt HK.out.gD HT.out.aG HX.out F0)).mono ?_
   rintro e w' ⟨s,X',β',γ',rfl,hs,hb,hk,hN2⟩
   replace hM:=hM.backM (.skip (.skip (.skip (.past .all)))) (yE _ _ _ _) hN2 (fun y hy=>(laAz.1 hy).elim (zL _ _ y) (yE _ _ _ _ y))
   refine hR.out _ _ (fun _=>hM.held (fun z hz=>by
    simp only[laBz,lbRz,or_false] at hz
    rcases hz with rfl|rfl
    ·exact .tail _ (.head _)
    ·exact .tail _ (.tail _ (.head _)))) ?_;clear hR R hN2 CE
   obtain⟨va,vc,hv,-⟩:=zf hs
   have HS:=qh hs
   clear hs
   rw[hv]
   (refine qq ?_)
   (repeat(first|(refine qW0 ?_;clear hM;intros;rename_i hM)|((refine qMk ?_);clear hM;intro w bk hM)|((first|refine qD (id:=5) hM (Sub.skip (Sub.take (Sub.take Sub.nil))) [3] [(0,0),(1,0),(2,0),(3,1),(4,0),(5,2),(6,3),(7,3)] ?_|refine qD (id:=6) hM (Sub.all _) [3,5] [(0,0),(1,0),(2,0),(3,1),(4,0),(5,1),(6,2),(7,2),(8,3),(9,2)] ?_);clear hM;intro w hM Kr hKr)))
   (refine qf ?_)
   refine⟨s,⟨x.b,x.P,X'⟩,β',γ',by rw[hv];rfl,HS.out,rfl,⟨hk,HK.out.bV⟩, ?_⟩
   have bJ:=hM.forget.forget.perm (H6 _ _ _ _)
   show St _ F _ (_++(aP x.b x.P.b X'.b::_))
   rw[hb]
   exact bJ
theorem XX(h:aC N x β γ W w)(hN:N≤999999980){pid:Int}(hp:Fits pid)(op:OpD)(ho:op.Ok)(hop:Fits op.pid){er n:Int}{da:ByteArray}{W':aB}(hd:Wd.do_ W pid op=(⟨er,n,da,[]⟩,W')):
  Calls Tryz.prog 51 #[.pointer (some ⟨x.b,0,none⟩),.int .i64 pid,.agg op.cells.toArray] w fun e w'=>(∃ a c,e= .returned (.agg #[.int .i64 er,.int .i64 n,.string da,.slice a 0 c]))∧oe w x β γ W w' W':=by
 refine(A6 h hN hp op ho hop).mono ?_
 rintro e w' ⟨s,x',β',γ',rfl,hs,hb,hok,hM⟩
 rw[hd] at hM hok ⊢
 refine⟨?_,x',β',γ',hb,hok,hM.subM (laFz _ _)⟩
 rcases s with _|⟨g,c⟩<;> exact⟨_,_,rfl⟩
theorem uq(h:(aP b p d).2.2.holds w.heap[b]?){P:dL}{t:aT}(hP:bf P t w)(hp:P.b=p):Calls Tryz.prog 57 #[.pointer (some ⟨b,0,none⟩)] w (rC (Pc.fR t) w):=by
 have hM:=St.one h
 have HW:=qh h
 have HP:=qh hP
 subst hp
 clear h hP
 unfold aP at hM
 go_enter Tryz.func57,Tryz.ntmps57
 (refine qw ?_;intros;rename_i hM)
 (refine qKx ?_;intro R hR)
 refine(ZL (hM.only.holds HW.out)).mono ?_
 (refine qgs ?_;clear hR R)
 (refine qw ?_;intros;rename_i hM)
 (refine qKx ?_;intro R hR)
 refine(Hw (HP.out.below hM.to_below)).mono ?_
 rintro e w' ⟨s1,rfl,hk,hN2⟩
 replace hM:=hM.madeM hN2 (zo _ _ _ _)
 refine hR.out _ _ (fun h=>⟨hM.only,nofun⟩) ?_;clear hR R hN2;(refine qq ?_)
 (refine qw ?_;intros;rename_i hM)
 (refine qf ?_)
 exact⟨s1,rfl,hk,St.front hM⟩
theorem H7(h:aC N x β γ W w):An 56 #[.pointer (some ⟨x.b,0,none⟩)] w (.int .i64 x.X.zs.length):=by
 have hM:=St.one h.row
 have HW:=qh h
 unfold aP at hM
 go_enter Tryz.func56,Tryz.ntmps56
 (refine qw ?_;intros;rename_i hM)
 (refine qKx ?_;intro R hR)
 refine(ZL (hM.only.holds HW.out.row)).mono ?_
 (refine qgs ?_;clear hR R)
 (refine qw ?_;intros;rename_i hM)
 (refine qKx ?_;intro R hR)
 have HD:=(HW.out.below hM.to_below).gD
 refine(E9 HD.row HW.out.ok.gD.sl).mono ?_
 rintro e w' ⟨rfl,hb⟩;replace hM:=hM.below hb;refine qho ?_;clear hR R hb;(refine qq ?_)
 exact qwf
theorem H8{α:Type}(n c:α)(f l p r:List α):(n::((c::(f++l))++(p++r))).Perm ((n::(p++(c::(f++l))))++r):=(zV (by intro _ x;simp only[lbKz,laXz,lbEz,lbLz,laIz,laJz];omega))
theorem H9(h:aC N x β γ W w)(hN:N≤1000000):Calls Tryz.prog 59 #[.pointer (some ⟨x.b,0,none⟩)] w fun e w'=> ∃ b' P' c y δ s',e= .returned (.pointer (some ⟨b',0,none⟩))∧(dL.m P'=none→W.p.aa=[])∧SlOK s' x.X.zs.length (x.X.zs.map aj.val) 1∧
  St w [] w' (aP b' P'.b c::(aN P' W.p++(au c (FsX.f y) x.X.sure.f s' x.X.zs.length::(fsL y δ W.d.now++aS s' (x.X.zs.map aj.val))))):=by
 have hM:=St.one h.row
 have HW:=qh h
 have H_:x.X.zs.length≤1000000000:=by
  obtain⟨K,-,h2⟩:=h.inv.aG.base
  have:=congrArg List.length h.ok.gD.log
  rw[lbMz] at this
  omega
 unfold aP at hM
 go_enter Tryz.func59,Tryz.ntmps59
 (repeat(first|(refine qW ?_;intros;rename_i hM)|(refine qMk ?_;clear hM;intro w bk hM)))
 (refine qKx ?_;intro R hR)
 refine(ZL (hM.only.holds HW.out.row)).mono ?_
 (refine qgs ?_;clear hR R)
 (repeat(first|(refine qW ?_;intros;rename_i hM)|(refine qMk ?_;clear hM;intro w bk hM)))
 (refine qKx ?_;intro R hR)
 refine(Hy (HW.out.below hM.to_below).bV).mono ?_
 rintro e w' ⟨P',rfl,hz,hN2⟩
 replace hM:=hM.madeM hN2 (Zs _ _)
 refine hR.out _ _ (fun h=>h.below hN2.to_below) ?_;clear hR R hN2;(refine qq ?_)
 (repeat(first|(refine qW ?_;intros;rename_i hM)|(refine qMk ?_;clear hM;intro w bk hM)))
 (refine qKx ?_;intro R hR)
 have HD:=(HW.out.below hM.to_below).gD
 refine(Fp HD.ok.sl (Ha _) H_ (by omega) HD.row HD.now (HD.at_.sub Hb)).mono ?_
 rintro e w' ⟨c,y,δ,s',rfl,hk,hN2⟩
 replace hM:=hM.madeM hN2 (fun z hz=>by
  rcases laBz.1 hz with rfl|hz
  ·rfl
  ·rcases laAz.1 hz with hz|hz
   ·exact zr _ _ _ z hz
   ·exact zo _ _ _ _ z hz)
 refine hR.out _ _ (fun h=>h.below hN2.to_below) ?_;clear hR R hN2;(refine qq ?_)
 (repeat(first|(refine qW ?_;intros;rename_i hM)|(refine qMk ?_;clear hM;intro w bk hM)))
 (refine qf ?_)
 exact⟨bk,P',c,y,δ,s',rfl,hz,hk,(hM.perm (H8 _ _ _ _ _ _)).front⟩
end
end
section
open Go.RowKit Go.Maps
namespace Wd
def step(W:aB)(a:ActV):ResD×aB:=
 if a.kind=1 then(⟨(Pc.spawn W.p a.pid).1.2,(Pc.spawn W.p a.pid).1.1,⟨#[]⟩,[]⟩,spawn W a.pid)
 else if a.kind=2 then(Fs.errR (kill W a.pid).1,(kill W a.pid).2)
 else if a.kind=3 then(Fs.errR 0,fS W a.keep)
 else do_ W a.pid a.op
theorem dd{N:Nat}{W:aB}(h:Inv N W)(hN:N≤999999980)(a:ActV)(hp:a.op.Ok):Inv (N+3) (step W a).2:=by
 unfold step
 split
 ·exact eD h a.pid
 split
 ·exact fT h hN a.pid
 split
 ·exact(eE h (by omega) a.keep).more (by omega)
 ·exact inv_do h hN a.pid hp
end Wd
section
variable {N:Nat}{x:cO}{β γ:Int→Nat×Nat}{W:aB}{w w' w0:World}{F:List Nat}{L L' M M':List Ent}
theorem Ia(h:aC N x β γ W w)(hN:N≤30000)(a:ActV)(hp:Fits a.pid)(ho:a.op.Ok)(hop:Fits a.op.pid):Calls Tryz.prog 50 #[.pointer (some ⟨x.b,0,none⟩),.agg a.cells.toArray] w (mi w x β γ W (Wd.step W a)):=by
 have hM:=h.at_.st
 unfold mi
 obtain⟨F,hF⟩: ∃ F,ze (aK x β γ W)=F:=⟨_,rfl⟩
 rw[hF] at hM ⊢
 have F0:0∉F:=hF▸h.zero
 have HK:=qh h.ok
 have HT:=qh h.inv
 have HX:=qh h.mx
 clear h hF
 obtain⟨ak,ap,aq,⟨pk,pp,pd,ph,pa,pn,px,py,pb⟩⟩:=a
 unfold Wd.step
 simp only[ActV.cells,OpD.cells]
 simp only at hp hop
 by_cases h1:ak=1
 ·subst h1
  rw[if_pos rfl]
  have C:=qh (fun (w1:World) (h:aC N x β γ W w1)=>Xp h (by omega) hp)
  generalize Wd.spawn W ap=W2 at*
  obtain⟨⟨r1,r2⟩,hr⟩: ∃ r:Int×Int,(Pc.spawn W.p ap).1=r:=⟨_,rfl⟩
  rw[hr] at C ⊢
  simp only at C ⊢
  clear hr
  go_enter Tryz.func50,Tryz.ntmps50
  (refine qw ?_;intros;rename_i hM)
  (refine qKx ?_;intro R hR)
  refine(C.out _ (hM.fj (.skip (.skip .all)) HK.out HT.out HX.out F0)).mono ?_
  rintro e w' ⟨rfl,X',β',γ',hb,hk,hN2⟩
  replace hM:=hM.backM (.skip (.skip .all)) (zC _ _ _ _) hN2 (zC _ _ _ _)
  refine qho ?_;clear hR R hN2 C
  (refine qq ?_)
  (refine qw ?_;intros;rename_i hM)
  (refine qf ?_)
  exact⟨none,X',β',γ',rfl,⟨rfl,rfl⟩,hb,hk,hM.forget.forget⟩
 have q1:(ak==1)=false:=qne.2 h1
 rw[if_neg h1]
 by_cases h2:ak=2
 ·subst h2
  rw[if_pos rfl]
  have C:=qh (fun (w1:World) (h:aC N x β γ W w1)=>A3 h (by omega) hp)
  obtain⟨⟨r1,W2⟩,hr⟩: ∃ r:Int×aB,Wd.kill W ap=r:=⟨_,rfl⟩
  rw[hr] at C ⊢
  simp only at C ⊢
  clear hr
  go_enter Tryz.func50,Tryz.ntmps50
  (refine qw ?_;intros;rename_i hM)
  (refine qKx ?_;intro R hR)
  refine(C.out _ (hM.fj (.skip (.skip .all)) HK.out HT.out HX.out F0)).mono ?_
  rintro e w' ⟨rfl,X',β',γ',hb,hk,hN2⟩
  replace hM:=hM.backM (.skip (.skip .all)) (zC _ _ _ _) hN2 (zC _ _ _ _)
  refine qho ?_;clear hR R hN2 C
  (refine qq ?_)
  (refine qw ?_;intros;rename_i hM)
  (refine qf ?_)
  exact⟨none,X',β',γ',rfl,⟨rfl,rfl⟩,hb,hk,hM.forget.forget⟩
 have q2:(ak==2)=false:=qne.2 h2
 rw[if_neg h2]
 by_cases h3:ak=3
 ·subst h3
  rw[if_pos rfl]
  have C:=qh (fun (w1:World) (h:aC N x β γ W w1)=>H5 h hN aq)
  simp only at C ⊢
  generalize Wd.fS W aq=W2 at*
  go_enter Tryz.func50,Tryz.ntmps50
  (refine qw ?_;intros;rename_i hM)
  (refine qKx ?_;intro R hR)
  refine(C.out _ (hM.fj (.skip (.skip .all)) HK.out HT.out HX.out F0)).mono ?_
  rintro e w' ⟨rfl,X',β',γ',hb,hk,hN2⟩
  replace hM:=hM.backM (.skip (.skip .all)) (zC _ _ _ _) hN2 (zC _ _ _ _)
  refine qho ?_;clear hR R hN2 C
  (refine qq ?_)
  (refine qw ?_;intros;rename_i hM)
  (refine qf ?_)
  exact⟨none,X',β',γ',rfl,⟨rfl,rfl⟩,hb,hk,hM.forget.forget⟩
 have q3:(ak==3)=false:=qne.2 h3
 rw[if_neg h3]
 have C:=qh (fun (w1:World) (h:aC N x β γ W w1)=>A6 h (by omega) hp ⟨pk,pp,pd,ph,pa,pn,px,py,pb⟩ ho hop)
 obtain⟨r,hr⟩: ∃ r,Wd.do_ W ap ⟨pk,pp,pd,ph,pa,pn,px,py,pb⟩=r:=⟨_,rfl⟩
 rw[hr] at C ⊢
 simp only[OpD.cells] at C
 clear hr h1 h2 h3
 go_enter Tryz.func50,Tryz.ntmps50
 (refine qw ?_;intros;rename_i hM)
 (refine qKx ?_;intro R hR)
 refine(C.out _ (hM.fj (.skip (.skip .all)) HK.out HT.out HX.out F0)).mono ?_
 rintro e w' ⟨s,X',β',γ',rfl,hs,hb,hk,hN2⟩
 replace hM:=hM.backM (.skip (.skip .all)) (zC _ _ _ _) hN2 (fun y hy=>(laAz.1 hy).elim (zL _ _ y) (zC _ _ _ _ y))
 refine qho ?_;clear hR R hN2 C
 obtain⟨va,vc,hv,-⟩:=zf hs
 have HS:=qh hs
 clear hs
 rw[hv]
 (refine qq ?_)
 (refine qw ?_;intros;rename_i hM)
 (refine qf ?_)
 exact⟨s,X',β',γ',by rw[hv];rfl,HS.out,hb,hk,hM.forget.forget⟩
end
end
theorem oS{p q:Prop}(k:q)(h:Hd q→p:=by
 intro q1k
 first|refine qD (id:=5) hM (Sub.take (Sub.take Sub.nil)) [3,5] [(0,0),(1,0),(2,0),(3,1),(4,0),(5,1),(6,2),(7,2),(8,3)] ?_|refine qD (id:=8) hM (Sub.all _) [3] [(0,0),(1,0),(2,0),(3,1),(4,0),(5,2),(6,3),(7,3)] ?_|fail
 exact q1k.out):p:=h ⟨k⟩
section
open Go.RowKit Go.Maps
section
variable {w w' w0 w1 w2:World}{X X':km}{W W':aB}{V V':fh}{N M:Nat}{F F' G:List Nat}{L Q:List Ent}
def oT(N:Nat)(X:km)(W:aB)(V:fh)(w:World)(r:ResD×aB)(e:Ending)(w':World):Prop:=
 ∃ s X' V',e= .returned (.agg #[.int .i64 r.1.err,.int .i64 r.1.n,.string r.1.data,slV s r.1.names.length])∧TxOK s r.1.names∧At (txL s r.1.names) w'∧(∀ k∈ze (txL s r.1.names),w.heap.size≤k∧k∉fi X' r.2 V')∧bC N X W V X' r.2 V' w w'
theorem lD(hM:St w0 [] w L)(hfl:zO L)(h:bE N X W V w0)(ho:Only G w w')(hG: ∀ k∈G,k∈lM X W V):St w' (ze L) w' L∧ ∀ k∈ze L,w0.heap.size≤k∧k<w.heap.size:=by
 have hk: ∀ k∈ze L,w0.heap.size≤k∧k<w.heap.size:=fun k hk=>by
  obtain⟨y,hy,rfl⟩:=laKz.1 hk
  exact⟨(hM.own y hy (hfl y hy)).resolve_left nofun,hM.lt hy⟩
 exact⟨(hM.whole.only ho fun k h1 h2=>by
  have h3:=hk k h1
  have h4:=h.lt k (rR k (hG k h2))
  omega).st,hk⟩
theorem St.tx{a b:Ent}{s:Option (Nat×Nat)}{ns:List ByteArray}{n m:Nat}(hM:St w' (ze [a,b]) w' [a,b])(hA:At (txL s ns) w')(hf: ∀ k∈ze (txL s ns),n≤k∧k∉ze [a,b])(_hk: ∀ k∈ze [a,b],m≤k∧k<n):St w' (ze (a::b::txL s ns)) w' (a::b::txL s ns):=by
 refine At.st ⟨fun y hy=> ?_, ?_⟩
 ·rcases laBz.1 hy with rfl|hy
  ·exact hM.holds _ (.head _)
  ·rcases laBz.1 hy with rfl|hy
   ·exact hM.holds _ (.tail _ (.head _))
   ·exact hA.has y hy
 ·show(ze ([a,b]++txL s ns)).Nodup
  rw[zF,laSz]
  exact⟨hM.nd,hA.nd,fun x hx y hy e=>(hf y hy).2 (e▸hx)⟩
theorem qv{a b:Nat}{r t:Res}:zO [(a,true,r),(b,true,t)]:=fun y hy=>by
 simp only[laBz,lbRz,or_false] at hy
 rcases hy with rfl|rfl<;> rfl
theorem Ib(h:bE N X W V w0)(hN:N≤30000)(pid:Int)(p:OpD)(hp:p.Sm)(cx:p.Ok):Calls Tryz.prog 100 #[.pointer (some ⟨X.w,0,none⟩),.int .i64 pid,.agg p.cells.toArray] w0 (oT (N+3) X W V w0 (Wd.do_ W pid p)):=by
 have hM:=St.start w0 []
 have c0:w0.cell? ⟨X.w,0,none⟩=some (.pointer (some ⟨X.d.d,0,none⟩)):=h.row 0 _ rfl
 have c1:w0.cell? ⟨X.w,1,none⟩=some (.pointer (some ⟨X.p.t,0,none⟩)):=h.row 1 _ rfl
 have HB:=qh (fun (U:World) (hb:Below w0.heap.size w0 U)=>Yh (h.below hb).bV pid)
 have HH:=qh h
 have HID:=qh (Wd.inv_do h.inv (by omega) pid cx)
 unfold Pc.bd at HB
 unfold Wd.do_ at*
 by_cases h0:Pc.birth W.p.aa pid=0
 ·rw[h0] at HB
  rw[if_pos h0] at HID ⊢
  rw[if_pos rfl] at HB
  obtain⟨pk,pp,pd,ph,pa,pn,px,py,pb⟩:=p
  simp only[OpD.cells]
  clear h h0 hp cx
  go_enter Tryz.func100,Tryz.ntmps100
  (refine qw ?_;intros;rename_i hM)
  (refine qCB (HB.out _ hM.to_below) hM ?_;clear hM;intro w' hM)
  (refine qw ?_;intros;rename_i hM)
  (refine qf ?_)
  exact⟨none,X,V,rfl,⟨rfl,rfl⟩,⟨nofun,lcHz⟩,nofun,((bC.refl HH.out).below hM.to_below).more (by omega)⟩
 ·have lB:=Wd.br h.inv (by omega) pid
  rw[if_neg h0] at HID HB ⊢
  by_cases qx:p.kind=15
  ·rw[if_pos qx] at HID ⊢
   have A7:=qh (fun (U:World) (hb:Below w0.heap.size w0 U)=>Gs (h.below hb).bV p.pid p.birth)
   generalize Pc.alive W.p p.pid p.birth=bb at*
   obtain⟨pk,pp,pd,ph,pa,pn,px,py,pb⟩:=p
   simp only[OpD.cells] at*
   subst qx
   clear h h0 hp cx lB
   cases bb with
   |true=>
    go_enter Tryz.func100,Tryz.ntmps100
    (repeat(first|(refine qW0 ?_;clear hM;intros;rename_i hM)|((refine qMk ?_);clear hM;intro w bk hM)|((refine oS ?_);clear hM;intro w hM Kr hKr)))
    (refine qCB (HB.out _ hM.to_below) hM ?_;clear hM;intro w' hM)
    (repeat(first|(refine qW0 ?_;clear hM;intros;rename_i hM)|((refine qMk ?_);clear hM;intro w bk hM)|((refine oS ?_);clear hM;intro w hM Kr hKr)))
    (refine qKx ?_;intro R hR)
    refine(A7.out _ hM.to_below).mono ?_
    ((refine qj ?_;clear hR R hM;intro w' hM))
    (repeat(first|(refine qW0 ?_;clear hM;intros;rename_i hM)|((refine qMk ?_);clear hM;intro w bk hM)|((refine oS ?_);clear hM;intro w hM Kr hKr)))
    (refine qf ?_)
    exact⟨none,X,V,rfl,⟨rfl,rfl⟩,⟨nofun,lcHz⟩,nofun,((bC.refl HH.out).below hM.to_below).more (by omega)⟩
   |false=>
    go_enter Tryz.func100,Tryz.ntmps100
    (repeat(first|(refine qW0 ?_;clear hM;intros;rename_i hM)|((refine qMk ?_);clear hM;intro w bk hM)|((refine oS ?_);clear hM;intro w hM Kr hKr)))
    (refine qCB (HB.out _ hM.to_below) hM ?_;clear hM;intro w' hM)
    (repeat(first|(refine qW0 ?_;clear hM;intros;rename_i hM)|((refine qMk ?_);clear hM;intro w bk hM)|((refine oS ?_);clear hM;intro w hM Kr hKr)))
    (refine qKx ?_;intro R hR)
    refine(A7.out _ hM.to_below).mono ?_
    ((refine qj ?_;clear hR R hM;intro w' hM))
    (repeat(first|(refine qW0 ?_;clear hM;intros;rename_i hM)|((refine qMk ?_);clear hM;intro w bk hM)|((refine oS ?_);clear hM;intro w hM Kr hKr)))
    (refine qf ?_)
    exact⟨none,X,V,rfl,⟨rfl,rfl⟩,⟨nofun,lcHz⟩,nofun,((bC.refl HH.out).below hM.to_below).more (by omega)⟩
  ·rw[if_neg qx] at HID ⊢
   have iS:=qh (fun (U:World) (hR:cz N X.d W.d V U)=>Gi hR (by omega) lB p hp cx)
   have Jm:=qne.2 qx
   generalize Pc.birth W.p.aa pid=bi at*
   obtain⟨⟨⟨er,nn,da,ns⟩,D2⟩,hG⟩: ∃ G,Ol.do_ W.d bi p=G:=⟨_,rfl⟩
   rw[hG] at HID iS ⊢
   obtain⟨pk,pp,pd,ph,pa,pn,px,py,pb⟩:=p
   simp only[OpD.cells] at*
   clear h h0 qx hp cx lB hG c0 c1
   have c0:w0.cell? ⟨X.w,0,none⟩=some (.pointer (some ⟨X.d.d,0,none⟩)):=HH.out.row 0 _ rfl
   have c1:w0.cell? ⟨X.w,1,none⟩=some (.pointer (some ⟨X.p.t,0,none⟩)):=HH.out.row 1 _ rfl
   go_enter Tryz.func100,Tryz.ntmps100
   (refine qw ?_;intros;rename_i hM)
   (refine qCB (HB.out _ hM.to_below) hM ?_;clear hM;intro w' hM)
   (repeat(first|(refine qW0 ?_;clear hM;intros;rename_i hM)|((refine qMk ?_);clear hM;intro w bk hM)|((first|refine qD (id:=5) hM (Sub.all _) [3,5] [(0,0),(1,0),(2,0),(3,1),(4,0),(5,1),(6,2),(7,2),(8,3)] ?_|refine qD (id:=8) hM (Sub.take (Sub.take Sub.nil)) [3] [(0,0),(1,0),(2,0),(3,1),(4,0),(5,2),(6,3),(7,3)] ?_);clear hM;intro w hM Kr hKr)))
   (refine qK3 (fun R hR=> ?_))
   have mj:=hM.only.size
   have HO:=qh hM.only
   have HW:=qh (HH.out.below hM.to_below)
   refine(iS.out _ HW.out.aG).mono ?_
   rintro e w' ⟨s,Y',V',rfl,hok,hA,hf,hto⟩
   obtain⟨bJ,gV⟩:=lD hM qv HH.out hto.only (fun k hk=>laEz _ hk)
   have fc:=qh gV
   clear hM gV
   have hM:=bJ.tx hA (fun k hk=>⟨(hf k hk).1,fun hm=>by have:=(fc.out k hm).2;have:=(hf k hk).1;omega⟩) fc.out
   clear bJ
   obtain⟨sa,sc,hsv,-⟩:=zf hok
   have HSV:=qh hsv
   have HOK:=qh hok
   have HFR:=qh hf
   have cL:=qh (HW.out.jx hto HID.out)
   rw[hsv]
   refine hR.out _ _ ?_;clear hR R hsv hok hf hA hto iS
   (refine qq ?_)
   (repeat(first|(refine qWn ?_;clear hM;intros;rename_i hM)|((refine qMk ?_);clear hM;intro w bk hM)))
   (refine St.cy rfl hM rfl rfl rfl rfl qm (Nat.le_of_ble_eq_true rfl) (Nat.le_of_ble_eq_true rfl) (by kernel_rfl) rfl ?_;clear hM;intro w kD hM;(try simp only[Res.put,Res.known,Act.eval,Value.cells,zR,qGz,qGs,lcRz,qSz,qSs,over,Nat.reduceAdd] at hM);(refine qq ?_))
   (refine qw ?_;intros;rename_i hM)
   (refine qf ?_)
   refine⟨s,_,V',by rw[HSV.out];rfl,HOK.out,hM.part (.skip (.skip .all)),fun k hk=> ?_,cL.out.wrap HH.out HO.out kD (fun k hk=>fc.out k (by rw[laGz.1 hk];exact .head _))⟩
   have h1:=(HFR.out k hk).1
   refine⟨by omega,fun hm=> ?_⟩
   unfold fi at hm
   rcases laBz.1 hm with h2|hm
   ·have h3:=HH.out.rS
    simp only at h2
    omega
   ·rcases laAz.1 hm with hm|hm
    ·exact(HFR.out k hk).2 hm
    ·have h3:=HH.out.bV.at_.lt k hm
     omega
theorem Ic(h:bE N X W V w0)(hN:N≤30000)(a:ActV)(hp:a.op.Sm)(cx:a.op.Ok)(hk:a.kind=1):Calls Tryz.prog 53 #[.pointer (some ⟨X.w,0,none⟩),.agg a.cells.toArray] w0 (oT (N+3) X W V w0 (Wd.step W a)):=by
 have hM:=St.start w0 []
 have c0:w0.cell? ⟨X.w,0,none⟩=some (.pointer (some ⟨X.d.d,0,none⟩)):=h.row 0 _ rfl
 have c1:w0.cell? ⟨X.w,1,none⟩=some (.pointer (some ⟨X.p.t,0,none⟩)):=h.row 1 _ rfl
 have HH:=qh h
 have mM:=qh (Wd.dd h.inv (by omega) a cx)
 unfold Wd.step at*
 rw[if_pos hk] at mM ⊢
 have Ie:=qh (fun (U:World) (hR:bE N X W V U)=>Gw hR.bV (by have:=hR.inv.last;omega) a.pid)
 have tX:=qh (Pc.gF h.inv.fit a.pid)
 unfold Wd.spawn at*
 generalize Pc.spawn W.p a.pid=S at*
 obtain⟨⟨r1,r2⟩,P2⟩:=S
 obtain⟨ak,ap,aq,⟨pk,pp,pd,ph,pa,pn,px,py,pb⟩⟩:=a
 simp only[ActV.cells,OpD.cells] at*
 clear h hp cx
 subst hk
 go_enter Tryz.func53,Tryz.ntmps53
 (repeat(first|(refine qW0 ?_;clear hM;intros;rename_i hM)|((refine qMk ?_);clear hM;intro w bk hM)|((first|refine qD (id:=3) hM (Sub.take (Sub.take Sub.nil)) [3] [(0,0),(1,0),(2,0),(3,1),(4,2),(5,2),(6,3),(7,2),(8,0),(9,0),(10,3),(11,3)] ?_);clear hM;intro w hM Kr hKr)))
 (refine qK3 (fun R hR=> ?_))
 have mj:=hM.only.size
 have HO:=qh hM.only
 have HW:=qh (HH.out.below hM.to_below)
 refine(Ie.out _ HW.out).mono ?_
 rintro e w' ⟨rfl,hto⟩
 obtain⟨p',ht⟩:=HW.out.lx hto tX.out (Nat.le_add_right N 3) mM.out
 have HT:=qh ht
 obtain⟨p2,-,-,hS⟩:=hto
 obtain⟨bJ,gV⟩:=lD hM qv HH.out hS.only (fun k hk=>laCz _ hk)
 have fc:=qh gV
 clear hM gV
 have hM:=bJ
 clear bJ
 refine hR.out _ _ ?_;clear hR R hS ht
 (refine qq ?_)
 (repeat(first|(refine qWn ?_;clear hM;intros;rename_i hM)|((refine qMk ?_);clear hM;intro w bk hM)))
 (refine St.cy rfl hM rfl rfl rfl rfl qm (Nat.le_of_ble_eq_true rfl) (Nat.le_of_ble_eq_true rfl) (by kernel_rfl) rfl ?_;clear hM;intro w kD hM;(try simp only[Res.put,Res.known,Act.eval,Value.cells,zR,qGz,qGs,lcRz,qSz,qSs,over,Nat.reduceAdd] at hM);(refine qq ?_))
 (refine qw ?_;intros;rename_i hM)
 (refine qf ?_)
 exact⟨none,_,_,rfl,⟨rfl,rfl⟩,⟨nofun,lcHz⟩,nofun,HT.out.wrap HH.out HO.out kD (fun k hk=>fc.out k (by rw[laGz.1 hk];exact .head _))⟩
theorem Ig(h:bE N X W V w0)(hN:N≤30000)(a:ActV)(hp:a.op.Sm)(cx:a.op.Ok)(hk:a.kind=2):Calls Tryz.prog 53 #[.pointer (some ⟨X.w,0,none⟩),.agg a.cells.toArray] w0 (oT (N+3) X W V w0 (Wd.step W a)):=by
 have hM:=St.start w0 []
 have c0:w0.cell? ⟨X.w,0,none⟩=some (.pointer (some ⟨X.d.d,0,none⟩)):=h.row 0 _ rfl
 have c1:w0.cell? ⟨X.w,1,none⟩=some (.pointer (some ⟨X.p.t,0,none⟩)):=h.row 1 _ rfl
 have HH:=qh h
 have mM:=qh (Wd.dd h.inv (by omega) a cx)
 unfold Wd.step at*
 rw[if_neg (by omega),if_pos hk] at mM ⊢
 have Ih:=qh (fun (U:World) (hR:bE N X W V U)=>G1 hR hN a.pid)
 generalize Wd.kill W a.pid=S at*
 obtain⟨r1,W2⟩:=S
 obtain⟨ak,ap,aq,⟨pk,pp,pd,ph,pa,pn,px,py,pb⟩⟩:=a
 simp only[ActV.cells,OpD.cells] at*
 clear h hp cx
 subst hk
 go_enter Tryz.func53,Tryz.ntmps53
 (repeat(first|(refine qW0 ?_;clear hM;intros;rename_i hM)|((refine qMk ?_);clear hM;intro w bk hM)|((first|refine qD (id:=3) hM (Sub.take (Sub.take Sub.nil)) [3] [(0,0),(1,0),(2,0),(3,1),(4,2),(5,2),(6,3),(7,2),(8,0),(9,0),(10,3),(11,3)] ?_);clear hM;intro w hM Kr hKr)))
 (refine qK3 (fun R hR=> ?_))
 have mj:=hM.only.size
 have HO:=qh hM.only
 have HW:=qh (HH.out.below hM.to_below)
 refine(Ih.out _ HW.out).mono ?_
 rintro e w' ⟨rfl,X2,V2,hto⟩
 have HT:=qh hto
 obtain⟨bJ,gV⟩:=lD hM qv HH.out hto.only (fun k hk=>hk)
 have fc:=qh gV
 clear hM gV
 have hM:=bJ
 clear bJ
 refine hR.out _ _ ?_;clear hR R hto
 (refine qq ?_)
 (repeat(first|(refine qWn ?_;clear hM;intros;rename_i hM)|((refine qMk ?_);clear hM;intro w bk hM)))
 (refine St.cy rfl hM rfl rfl rfl rfl qm (Nat.le_of_ble_eq_true rfl) (Nat.le_of_ble_eq_true rfl) (by kernel_rfl) rfl ?_;clear hM;intro w kD hM;(try simp only[Res.put,Res.known,Act.eval,Value.cells,zR,qGz,qGs,lcRz,qSz,qSs,over,Nat.reduceAdd] at hM);(refine qq ?_))
 (refine qw ?_;intros;rename_i hM)
 (refine qf ?_)
 exact⟨none,_,_,rfl,⟨rfl,rfl⟩,⟨nofun,lcHz⟩,nofun,HT.out.wrap HH.out HO.out kD (fun k hk=>fc.out k (by rw[laGz.1 hk];exact .head _))⟩
theorem Ii(h:bE N X W V w0)(hN:N≤30000)(a:ActV)(hp:a.op.Sm)(cx:a.op.Ok)(hk:a.kind=3):Calls Tryz.prog 53 #[.pointer (some ⟨X.w,0,none⟩),.agg a.cells.toArray] w0 (oT (N+3) X W V w0 (Wd.step W a)):=by
 have hM:=St.start w0 []
 have c0:w0.cell? ⟨X.w,0,none⟩=some (.pointer (some ⟨X.d.d,0,none⟩)):=h.row 0 _ rfl
 have c1:w0.cell? ⟨X.w,1,none⟩=some (.pointer (some ⟨X.p.t,0,none⟩)):=h.row 1 _ rfl
 have HH:=qh h
 have mM:=qh (Wd.dd h.inv (by omega) a cx)
 unfold Wd.step at*
 rw[if_neg (by omega),if_neg (by omega),if_pos hk] at mM ⊢
 have Ij:=qh (fun (U:World) (hR:bE N X W V U)=>G4 hR hN a.keep)
 generalize Wd.fS W a.keep=W2 at*
 obtain⟨ak,ap,aq,⟨pk,pp,pd,ph,pa,pn,px,py,pb⟩⟩:=a
 simp only[ActV.cells,OpD.cells] at*
 clear h hp cx
 subst hk
 go_enter Tryz.func53,Tryz.ntmps53
 (repeat(first|(refine qW0 ?_;clear hM;intros;rename_i hM)|((refine qMk ?_);clear hM;intro w bk hM)|((first|refine qD (id:=3) hM (Sub.take (Sub.take Sub.nil)) [3] [(0,0),(1,0),(2,0),(3,1),(4,2),(5,2),(6,3),(7,2),(8,0),(9,0),(10,3),(11,3)] ?_);clear hM;intro w hM Kr hKr)))
 (refine qK3 (fun R hR=> ?_))
 have mj:=hM.only.size
 have HO:=qh hM.only
 have HW:=qh (HH.out.below hM.to_below)
 refine(Ij.out _ HW.out).mono ?_
 rintro e w' ⟨rfl,X2,V2,hto⟩
 have HT:=qh (hto.more (M:=N+3) (by omega))
 obtain⟨bJ,gV⟩:=lD hM qv HH.out hto.only (fun k hk=>hk)
 have fc:=qh gV
 clear hM gV
 have hM:=bJ
 clear bJ
 refine hR.out _ _ ?_;clear hR R hto
 (refine qq ?_)
 (repeat(first|(refine qWn ?_;clear hM;intros;rename_i hM)|((refine qMk ?_);clear hM;intro w bk hM)))
 (refine St.cy rfl hM rfl rfl rfl rfl qm (Nat.le_of_ble_eq_true rfl) (Nat.le_of_ble_eq_true rfl) (by kernel_rfl) rfl ?_;clear hM;intro w kD hM;(try simp only[Res.put,Res.known,Act.eval,Value.cells,zR,qGz,qGs,lcRz,qSz,qSs,over,Nat.reduceAdd] at hM);(refine qq ?_))
 (refine qw ?_;intros;rename_i hM)
 (refine qf ?_)
 exact⟨none,_,_,rfl,⟨rfl,rfl⟩,⟨nofun,lcHz⟩,nofun,HT.out.wrap HH.out HO.out kD (fun k hk=>fc.out k (by rw[laGz.1 hk];exact .head _))⟩
theorem Ik(h:bE N X W V w0)(hN:N≤30000)(a:ActV)(hp:a.op.Sm)(cx:a.op.Ok)(h1:a.kind≠1)(h2:a.kind≠2)(h3:a.kind≠3):Calls Tryz.prog 53 #[.pointer (some ⟨X.w,0,none⟩),.agg a.cells.toArray] w0 (oT (N+3) X W V w0 (Wd.step W a)):=by
 have hM:=St.start w0 []
 have c0:w0.cell? ⟨X.w,0,none⟩=some (.pointer (some ⟨X.d.d,0,none⟩)):=h.row 0 _ rfl
 have c1:w0.cell? ⟨X.w,1,none⟩=some (.pointer (some ⟨X.p.t,0,none⟩)):=h.row 1 _ rfl
 have HH:=qh h
 have mM:=qh (Wd.dd h.inv (by omega) a cx)
 unfold Wd.step at*
 rw[if_neg h1,if_neg h2,if_neg h3] at mM ⊢
 have iS:=qh (fun (U:World) (hR:bE N X W V U)=>Ib hR hN a.pid a.op hp cx)
 have b1:=qne.2 h1
 have b2:=qne.2 h2
 have b3:=qne.2 h3
 generalize Wd.do_ W a.pid a.op=S at*
 obtain⟨⟨er,nn,da,ns⟩,W2⟩:=S
 obtain⟨ak,ap,aq,⟨pk,pp,pd,ph,pa,pn,px,py,pb⟩⟩:=a
 simp only[ActV.cells,OpD.cells] at*
 clear h hp cx
 clear h1 h2 h3
 go_enter Tryz.func53,Tryz.ntmps53
 (repeat(first|(refine qW0 ?_;clear hM;intros;rename_i hM)|((refine qMk ?_);clear hM;intro w bk hM)|((first|refine qD (id:=3) hM (Sub.take (Sub.take Sub.nil)) [3] [(0,0),(1,0),(2,0),(3,1),(4,2),(5,2),(6,3),(7,2),(8,0),(9,0),(10,3),(11,3)] ?_);clear hM;intro w hM Kr hKr)))
 (refine qK3 (fun R hR=> ?_))
 have mj:=hM.only.size
 have HO:=qh hM.only
 have HW:=qh (HH.out.below hM.to_below)
 refine(iS.out _ HW.out).mono ?_
 rintro e w' ⟨s,X2,V2,rfl,hok,hA,hf,hto⟩
 have cL:=qh hto
 obtain⟨bJ,gV⟩:=lD hM qv HH.out hto.only (fun k hk=>hk)
 have fc:=qh gV
 clear hM gV
 have hM:=bJ
 clear bJ
 replace hM:=hM.tx hA (fun k hk=>⟨(hf k hk).1,fun hm=>by have:=(fc.out k hm).2;have:=(hf k hk).1;omega⟩) fc.out
 obtain⟨sa,sc,hsv,-⟩:=zf hok
 have HSV:=qh hsv
 have HOK:=qh hok
 have HFR:=qh hf
 rw[hsv]
 refine hR.out _ _ ?_;clear hR R hsv hok hf hA hto iS
 (refine qq ?_)
 (repeat(first|(refine qWn ?_;clear hM;intros;rename_i hM)|((refine qMk ?_);clear hM;intro w bk hM)))
 (refine St.cy rfl hM rfl rfl rfl rfl qm (Nat.le_of_ble_eq_true rfl) (Nat.le_of_ble_eq_true rfl) (by kernel_rfl) rfl ?_;clear hM;intro w kD hM;(try simp only[Res.put,Res.known,Act.eval,Value.cells,zR,qGz,qGs,lcRz,qSz,qSs,over,Nat.reduceAdd] at hM);(refine qq ?_))
 (refine qw ?_;intros;rename_i hM)
 (refine qf ?_)
 refine⟨s,X2,V2,by rw[HSV.out];rfl,HOK.out,hM.part (.skip (.skip .all)),fun k hk=> ?_,cL.out.wrap HH.out HO.out kD (fun k hk=>fc.out k (by rw[laGz.1 hk];exact .head _))⟩
 have h1:=(HFR.out k hk).1
 exact⟨by omega,(HFR.out k hk).2⟩
theorem Il(h:bE N X W V w0)(hN:N≤30000)(a:ActV)(hp:a.op.Sm)(cx:a.op.Ok):Calls Tryz.prog 53 #[.pointer (some ⟨X.w,0,none⟩),.agg a.cells.toArray] w0 (oT (N+3) X W V w0 (Wd.step W a)):=by
 by_cases h1:a.kind=1
 ·exact Ic h hN a hp cx h1
 by_cases h2:a.kind=2
 ·exact Ig h hN a hp cx h2
 by_cases h3:a.kind=3
 ·exact Ii h hN a hp cx h3
 exact Ik h hN a hp cx h1 h2 h3
end
end
section
open Go.RowKit Go.Maps
theorem xF.get{w:World}{a:Option Addr}{n:Nat}{xs:List ActV}(h:xF w a n xs){k:Nat}{x:ActV}(hk:xs[k]? =some x):
  x.Fit∧ ∃ b off,a=some ⟨b,off,none⟩∧w.rangeAt b (off+k*12) x.cells∧w.rangeAt b (off+k*12+3) x.op.cells:=by
 obtain⟨-,-,h3⟩:=h
 obtain⟨hf,b,off,rfl,hc⟩:=h3 k x hk
 refine⟨hf,b,off,rfl,nZ fun j hj=>hc j hj,nZ fun j hj=> ?_⟩
 have hl:x.op.cells.length=9:=rfl
 have:=hc (j+3) (by omega)
 rw[show off+k*12+(j+3)=off+k*12+3+j by omega] at this
 rw[this]
 rfl
theorem Im{w:World}{a:Option Addr}{n c:Nat}{xs:List ActV}(dJ:Int)(lW:0≤dJ)(hm1:dJ≤1000)(h:xF w a n xs):
  Calls Tryz.prog 46 #[.slice a n c,.int .i64 dJ] w fun e w'=> ∃ b:Bool,e= .returned (.bool b)∧(b=true→(xs.length:Int)≤dJ∧ ∀ (j:Nat) (y:ActV),xs[j]? =some y→bY ⟨0,false,y.op⟩)∧Below w.heap.size w w':=by
 have hM:=St.start w []
 have HX:=qh h
 obtain⟨rfl,hn,-⟩:=h
 rw[zj] at hn
 go_enter Tryz.func46,Tryz.ntmps46
 (refine qw ?_;intros;rename_i hM)
 go_loopw [5] (fun i wr=> ∃ k:Nat,k≤xs.length∧(k:Int)≤dJ∧i= .int .i64 k∧Hid (∀ (j:Nat) (y:ActV),j<k→xs[j]? =some y→bY ⟨0,false,y.op⟩)∧St w [] wr []) (fun i _=>xs.length - (intOf i).toNat)
 case atStart=>exact⟨0,by omega,lW,rfl,qh (fun j y hj=>absurd hj (by omega)),hM⟩
 case round=>
  clear hM
  obtain⟨k,hk,nH,rfl,HS,hM⟩:=hrel
  by_cases hlt:k<xs.length
  ·have k1:(k:Int)<(xs.length:Int):=by omega
   by_cases hlm:(k:Int)<dJ
   ·obtain⟨x,mz⟩:=zK hlt
    obtain⟨hf,b,off,rfl,-,hc⟩:=HX.out.get mz
    have HN:=qh (fun (hs:bY ⟨0,false,x.op⟩)=>(show ∀ (j:Nat) (y:ActV),j<k+1→xs[j]? =some y→bY ⟨0,false,y.op⟩ from fun j y hj hy=>by
     rcases Nat.lt_or_ge j k with h|h
     ·exact HS.out j y h hy
     ·obtain rfl:j=k:=by omega
      rw[mz] at hy;cases hy;exact hs))
    have HF:=qh hf.op
    clear mz hf
    obtain⟨ak,ap,aq,⟨pk,pp,pd,ph,pa,pn,px,py,pb⟩⟩:=x
    simp only[OpD.cells] at hc
    (refine qw ?_;intros;rename_i hM)
    (refine qKx ?_;intro R hR)
    refine(G9 1 (by decide) (by decide) (G_ hM (x:=⟨0,false,⟨pk,pp,pd,ph,pa,pn,px,py,pb⟩⟩) qm ⟨show Fits (0:Int) by decide,HF.out⟩)).mono ?_
    rintro e w' ⟨bb,rfl,hs,hb⟩
    replace hM:=hM.below hb
    refine qho ?_;clear hR R hb
    have HSM:=qh hs
    clear hs
    (refine qq ?_)
    cases bb with
    |false=>
     (refine qw ?_;intros;rename_i hM)
     (refine qf ?_)
     exact⟨false,rfl,nofun,hM.to_below⟩
    |true=>
     have HN':=qh (HN.out ((HSM.out rfl).2 0 _ rfl))
     clear HN HSM
     (refine qw ?_;intros;rename_i hM)
     replace hM:=hM.drop (L':=[]) nofun (by simp)
     simp only[Exit.then]
     (refine⟨?_,qio⟩;repeat(first|exact⟨⟨k+1,by omega,by omega,rfl,HN',hM⟩,rfl⟩|apply Exists.intro))
   ·have k2:¬(xs.length:Int)≤dJ:=by omega
    (refine qw ?_;intros;rename_i hM)
    (refine qf ?_)
    exact⟨false,rfl,nofun,hM.to_below⟩
  ·have k0:¬((k:Int)<(xs.length:Int)):=by omega
   obtain rfl:k=xs.length:=by omega
   clear hlt hk
   (refine qw ?_;intros;rename_i hM)
   (refine qf ?_)
   exact⟨true,rfl,fun _=>⟨nH,fun j y hy=>HS.out j y (laHz.1 hy).1 hy⟩,hM.to_below⟩
end
section
open Go.RowKit Go.Maps
namespace aR
def ol:OpD:=⟨13,⟨#[]⟩,⟨#[]⟩,0,0,0,⟨#[]⟩,0,0⟩
def oa:OpD:=⟨15,⟨#[]⟩,⟨#[]⟩,0,0,0,⟨#[]⟩,3,1⟩
def p1:aT:=⟨[(3,1)],1⟩
def p3:aT:=⟨[],1⟩
def p4:aT:=⟨[(3,2)],2⟩
def s3:FsD:=⟨⟨4096,128,2,[⟨1,true,1,0,⟨#[]⟩,[(⟨#[97]⟩,2)]⟩,⟨2,false,1,0,⟨#[]⟩,[]⟩]⟩,[]⟩
def W1:aB:=⟨Ol.new 4096,p1⟩
def W2:aB:=⟨iM.D1,p1⟩
def W3:aB:=⟨⟨s3,s3,[]⟩,p3⟩
def W4:aB:=⟨⟨s3,s3,[]⟩,p4⟩
theorem e0:Pc.spawn (Wd.new 4096).p 3=((1,0),p1):=by kernel_rfl
theorem e1:Wd.spawn (Wd.new 4096) 3=W1:=by kernel_rfl
theorem e2:Wd.do_ W1 3 iM.o1=(⟨0,1,⟨#[]⟩,[]⟩,W2):=by
 unfold Wd.do_
 rw[if_neg (by decide),if_neg (by decide),show Pc.birth W1.p.aa 3=1 from rfl,show W1.d=Ol.new 4096 from rfl,iM.d1]
 rfl
theorem e3:Wd.do_ W2 4 ol=(⟨3,0,⟨#[]⟩,[]⟩,W2):=by
 unfold Wd.do_
 rw[if_pos (by decide)]
 rfl
theorem e4:Wd.do_ W2 3 oa=(⟨0,1,⟨#[]⟩,[]⟩,W2):=by
 unfold Wd.do_
 rw[if_neg (by decide),if_pos (by decide)]
 rfl
theorem c5:Ol.aW iM.D1 9=s3:=by kernel_rfl
theorem e5:Wd.fS W2 9=W3:=by kernel_rfl
theorem e6:Pc.spawn W3.p 3=((2,0),p4):=by kernel_rfl
theorem e7:Wd.spawn W3 3=W4:=by kernel_rfl
theorem e8:Wd.do_ W4 3 oa=(⟨0,0,⟨#[]⟩,[]⟩,W4):=by
 unfold Wd.do_
 rw[if_neg (by decide),if_pos (by decide)]
 rfl
theorem e9:Fs.files s3=[⟨⟨#[97]⟩,false,⟨#[]⟩⟩]:=by kernel_rfl
theorem A8:(Wd.kill W2 3).1=0∧(Wd.kill W2 3).2.p=p3:=⟨by kernel_rfl,by kernel_rfl⟩
end aR
theorem A9(x:cO)(β γ:Int→Nat×Nat)(W:aB):(aP x.b x.P.b x.X.b::(aN x.P W.p++(au x.X.b x.X.now.f x.X.sure.f x.X.s x.X.zs.length::(aS x.X.s (x.X.zs.map aj.val)++(fsL x.X.sure γ W.d.base++x.X.zs.flatMap aj.ents))))).Sublist (aK x β γ W):=by
 unfold aK bp
 exact(((laFz _ _).cons_cons _).append_left _).cons_cons _
theorem Io{α:Type}(n c a d r1 r2 r3:α)(p' f' l' p f l g e:List α):((n::(p' ++(c::(f' ++l'))))++(r3::r2::r1::(a::(p++(d::(f++(l++(g++e)))))))).Perm
  ((p++[d])++(r3::r2::r1::a::((n::(p' ++(c::(f' ++(l' ++(g++e))))))++(f++l)))):=(zV (by intro _ x;simp only[lbKz,laXz,lbEz,lbLz,laIz,laJz];omega))
theorem Ip{α:Type}(a d r1 r2 r3:α)(p f1 f2 k q:List α):((p++(d::(f1++f2)))++(r3::r2::r1::a::(k++q))).Perm
  ((r3::r2::r1::((a::(p++(d::(f1++([]++(f2++[]))))))++k))++q):=(zV (by intro _ x;simp only[lbKz,laXz,lbEz,lbLz,laIz,laJz];omega))
theorem xH(w:World)(hX:Mx w):An 47 #[] w (.bool true):=by
 have hM:=St.start w []
 have HX:=qh hX
 have F0:0∉([]:List Nat):=nofun
 have I0:=qh (Wd.inv_new (q:=4096) (by decide) (by decide))
 have I1:=qh (aR.e1▸Wd.eD I0.out 3)
 have I2:Hid (Wd.Inv (1+3+3) aR.W2):=qh (by have h:=Wd.inv_do I1.out (by decide) 3 (op:=iM.o1) (by constructor<;> decide);rw[aR.e2] at h;exact h)
 have I3:=qh (aR.e5▸Wd.eE I2.out (by decide) 9)
 have I4:=qh (aR.e7▸Wd.eD I3.out 3)
 have f3:Fits (3:Int):=by decide
 have f4:Fits (4:Int):=by decide
 clear hX
 go_enter Tryz.func47,Tryz.ntmps47
 (refine qw ?_;intros;rename_i hM)
 (refine qKx ?_;intro R hR)
 refine(A1 4096 _ rfl (hM.mx HX.out F0)).mono ?_
 rintro e w' ⟨X,β,γ,rfl,hk0,hN⟩
 replace hM:=hM.madeM hN (zC _ _ _ _)
 rw[laYz] at hM
 refine qho ?_;clear hR R hN
 generalize hb:cO.b X=bb
 (refine qq ?_)
 (refine qw ?_;intros;rename_i hM)
 (refine qKx ?_;intro R hR)
 have C:=Xp (hM.fj qpt hk0 I0.out HX.out F0) (by decide) f3
 rw[hb,aR.e0,aR.e1] at C
 refine C.mono ?_
 rintro e w' ⟨rfl,X1,β,γ,hb',hk1,hN⟩
 replace hM:=hM.backM qsw (zC _ _ _ _) hN (zC _ _ _ _)
 rw[hb] at hb'
 refine qho ?_;clear hR R hN C hb
 have hb:=hb'
 clear hb'
 (refine qq ?_)
 (refine qw ?_;intros;rename_i hM)
 (refine qKx ?_;intro R hR)
 have C:=XX (hM.fj qpt hk1 I1.out HX.out F0) (by decide) f3 iM.o1 (by constructor<;> decide) (by decide) aR.e2
 rw[hb] at C
 refine C.mono ?_
 rintro e w' ⟨⟨a0,c0,rfl⟩,X2,β,γ,hb',hk2,hN⟩
 replace hM:=hM.backM qsw (zC _ _ _ _) hN (zC _ _ _ _)
 rw[hb] at hb'
 refine qho ?_;clear hR R hN C hb
 have hb:=hb'
 clear hb'
 (refine qq ?_)
 (refine qw ?_;intros;rename_i hM)
 (refine qKx ?_;intro R hR)
 have C:=XX (hM.fj qpt hk2 I2.out HX.out F0) (by decide) f4 aR.ol (by constructor<;> decide) (by decide) aR.e3
 rw[hb] at C
 refine C.mono ?_
 rintro e w' ⟨⟨a1,c1,rfl⟩,X3,β,γ,hb',aL,hN⟩
 replace hM:=hM.backM qsw (zC _ _ _ _) hN (zC _ _ _ _)
 rw[hb] at hb'
 refine qho ?_;clear hR R hN C hb hk2
 have hb:=hb'
 clear hb'
 (refine qq ?_)
 (refine qw ?_;intros;rename_i hM)
 (refine qKx ?_;intro R hR)
 have C:=XX (hM.fj qpt aL I2.out HX.out F0) (by decide) f3 aR.oa (by constructor<;> decide) (by decide) aR.e4
 rw[hb] at C
 refine C.mono ?_
 rintro e w' ⟨⟨a2,c2,rfl⟩,X4,β,γ,hb',hk4,hN⟩
 replace hM:=hM.backM qsw (zC _ _ _ _) hN (zC _ _ _ _)
 rw[hb] at hb'
 refine qho ?_;clear hR R hN C hb aL
 have hb:=hb'
 clear hb'
 (refine qq ?_)
 (refine qw ?_;intros;rename_i hM)
 (refine qKx ?_;intro R hR)
 have C:=H9 (hM.fj qpt hk4 I2.out HX.out F0) (by decide)
 rw[hb] at C
 refine C.mono ?_
 rintro e w' ⟨cb,P',cd,y,δ,s',rfl,hz',hs',hN⟩
 replace hM:=hM.madeM hN (fun z hz=>by
  rcases laBz.1 hz with rfl|hz
  ·rfl
  rcases laAz.1 hz with hz|hz
  ·exact Zs _ _ z hz
  rcases laBz.1 hz with rfl|hz
  ·rfl
  rcases laAz.1 hz with hz|hz
  ·exact zr _ _ _ z hz
  ·exact zo _ _ _ _ z hz)
 refine qho ?_;clear hR R C hN
 have HZ:=qh hz'
 have HS:=qh hs'
 clear hz' hs'
 (refine qq ?_)
 (refine qw ?_;intros;rename_i hM)
 (refine qKx ?_;intro R hR)
 have HW4:=hM.fj (.past (.skip (.skip (.skip .all)))) hk4 I2.out HX.out F0
 obtain⟨K0,hB,hK⟩:=I2.out.aG.base
 have C:=A5 (HW4.at_.sub (A9 X4 β γ _)) hk4.bV I2.out.fit hk4.gD.sl hk4.gD.log hB (by have:aR.W2.d.log.length=1:=rfl;omega) I2.out.aG.ok HW4.mx (Ys (A9 X4 β γ _) HW4.zero) 9
 rw[hb,show aR.W2.d=iM.D1 from rfl,aR.c5] at C
 refine C.mono ?_
 rintro e w' ⟨rfl,P2,x1,β1,x2,β2,hb2,hN⟩
 unfold aK bp at hM
 replace hM:=hM.perm (Io _ _ _ _ _ _ _ _ _ _ _ _ _ _ _)
 replace hM:=hM.backM .here (fun y hy=>by
  rcases laAz.1 hy with hy|hy
  ·exact Zs _ _ y hy
  ·rcases laGz.1 hy with rfl;rfl) hN (fun y hy=>by
  rcases laAz.1 hy with hy|hy
  ·exact Zs _ _ y hy
  rcases laBz.1 hy with rfl|hy
  ·rfl
  rcases laAz.1 hy with hy|hy
  ·exact zr _ _ _ y hy
  ·exact zr _ _ _ y hy)
 refine qho ?_;clear hR R hN C HW4 hB hK
 replace hM:=(hM.perm (Ip _ _ _ _ _ _ _ _ _ _)).front
 obtain⟨x5,r5⟩: ∃ x5:cO,x5=⟨bb,P2,⟨X4.X.b,x1,x2,none,[]⟩⟩:=⟨_,rfl⟩
 obtain⟨xc,r6⟩: ∃ xc:cO,xc=⟨cb,P',⟨cd,y,X4.X.sure,s',X4.X.zs⟩⟩:=⟨_,rfl⟩
 have A_:aP X4.b X4.P.b X4.X.b::(aN P2 (Pc.bU aR.W2.p)++(au X4.X.b x1.f x2.f none 0::(fsL x1 β1 aR.s3++([]++(fsL x2 β2 aR.s3++[])))))=aK x5 β1 β2 aR.W3:=by
  rw[r5,hb,←hb2]
  rfl
 have Ba:aP cb P'.b cd::(aN P' aR.W2.p++(au cd y.f X4.X.sure.f s' X4.X.zs.length::(fsL y δ aR.W2.d.now++(aS s' (X4.X.zs.map aj.val)++(fsL X4.X.sure γ aR.W2.d.base++X4.X.zs.flatMap aj.ents)))))=aK xc δ γ aR.W2:=by
  rw[r6]
  rfl
 rw[A_,Ba] at hM
 have Bb:eX x5 aR.W3:=by rw[r5];exact⟨⟨rfl,⟨rfl,rfl⟩⟩,fun _=>rfl⟩
 have ur:eX xc aR.W2:=by rw[r6];exact⟨⟨hk4.gD.log,HS.out⟩,HZ.out⟩
 have r7:xc.b=cb:=by rw[r6]
 have Bc:x5.b=bb:=by rw[r5]
 clear A_ Ba r5 r6 hb2 HZ HS hk4 hb
 have hb:=Bc
 clear Bc
 (refine qq ?_)
 (refine qw ?_;intros;rename_i hM)
 (refine qKx ?_;intro R hR)
 have C:=Xp (hM.fj (.skip (.skip (.skip .here))) Bb I3.out HX.out F0) (by decide) f3
 rw[hb,aR.e6,aR.e7] at C
 refine C.mono ?_
 rintro e w' ⟨rfl,X6,β,γ5,hb',Be,hN⟩
 replace hM:=hM.backM (.skip (.skip (.skip .here))) (zC _ _ _ _) hN (zC _ _ _ _)
 rw[hb] at hb'
 refine qho ?_;clear hR R hN C hb Bb
 have hb:=hb'
 clear hb'
 (refine qq ?_)
 (refine qw ?_;intros;rename_i hM)
 (refine qKx ?_;intro R hR)
 have C:=XX (hM.fj (.skip (.skip (.skip .here))) Be I4.out HX.out F0) (by decide) f3 aR.oa (by constructor<;> decide) (by decide) aR.e8
 rw[hb] at C
 refine C.mono ?_
 rintro e w' ⟨⟨a3,c3,rfl⟩,X7,β,γ6,hb',Iq,hN⟩
 replace hM:=hM.backM (.skip (.skip (.skip .here))) (zC _ _ _ _) hN (zC _ _ _ _)
 rw[hb] at hb'
 refine qho ?_;clear hR R hN C hb Be
 have hb:=hb'
 clear hb'
 (refine qq ?_)
 (refine qw ?_;intros;rename_i hM)
 (refine qKx ?_;intro R hR)
 have C:=A2 (hM.fj (.skip (.skip (.skip (.skip .here)))) Iq I4.out HX.out F0) (by decide)
 rw[hb,show aR.W4.d.now=aR.s3 from rfl,aR.e9] at C
 refine C.mono ?_
 rintro e w' ⟨sf,rfl,Ir,hN⟩
 replace hM:=hM.below hN.to_below
 refine qho ?_;clear hR R C hN
 obtain⟨ag,cg,Is,-⟩:=zf Ir
 rw[Is]
 simp only[laPz,lcGz,Nat.zero_add]
 (refine qq ?_)
 (refine qw ?_;intros;rename_i hM)
 (refine qKx ?_;intro R hR)
 have C:=uq (hM.fj (.skip (.skip (.skip (.skip (.past .all))))) ur I2.out HX.out F0).row (hM.fj (.skip (.skip (.skip (.skip (.past .all))))) ur I2.out HX.out F0).bV rfl
 rw[r7] at C
 refine C.mono ?_
 rintro e w' ⟨sp,rfl,hkp,hN⟩
 replace hM:=hM.below hN.to_below
 refine qho ?_;clear hR R C hN
 obtain⟨ap,cp,Iu,-⟩:=zf hkp
 rw[Iu]
 simp only[show(Pc.fR aR.W2.p).length=1 from rfl]
 (refine qq ?_)
 (refine qw ?_;intros;rename_i hM)
 (refine qKx ?_;intro R hR)
 have IK:=Wd.fT I2.out (by decide) 3
 have C:=A3 (hM.fj (.skip (.skip (.skip (.skip (.past .all))))) ur I2.out HX.out F0) (by decide) f3
 rw[r7,aR.A8.1] at C
 refine C.mono ?_
 rintro e w' ⟨rfl,xd,δ2,γ7,hb2,rr,hN⟩
 replace hM:=hM.backM (.skip (.skip (.skip (.skip (.past .all))))) (zC _ _ _ _) hN (zC _ _ _ _)
 rw[r7] at hb2
 refine qho ?_;clear hR R hN C r7
 (refine qq ?_)
 (refine qw ?_;intros;rename_i hM)
 (refine qKx ?_;intro R hR)
 have C:=uq (hM.fj (.skip (.skip (.skip (.skip (.past .all))))) rr IK HX.out F0).row (hM.fj (.skip (.skip (.skip (.skip (.past .all))))) rr IK HX.out F0).bV rfl
 rw[hb2,aR.A8.2] at C
 refine C.mono ?_
 rintro e w' ⟨sq,rfl,Iv,hN⟩
 replace hM:=hM.below hN.to_below
 refine qho ?_;clear hR R C hN
 obtain⟨aq,cq,Iw,-⟩:=zf Iv
 rw[Iw]
 simp only[show(Pc.fR aR.p3).length=0 from rfl]
 (refine qq ?_)
 exact qwf
end
section
open Go.RowKit Go.Maps
section
variable {P:Program}{K:Act→World→Prop}{a:Act}{w w0:World}{ops:Array Oper}{l:List (Oper×Nat)}{o:Oper}{F:List Nat}{L Lr:List Ent}{ty:TypeId}{c:Nat}
theorem St.og(hx:o.op= .alloc ty)(hM:St w0 F w L)(hc:(c==2||c==3)=true)(hw:Region.wanted o (yielded ops a.tmps)=true){z:Value}(hz:((P.info? ty).bind (·.zero))=some z)
  (h: ∀ w' b,Below w.heap.size w w'→w.heap.size≤b→St w0 F w' ((b,true,.cells z.cells.toList ty)::L)→zg P ops K (Held w0 F Lr) l (a.put o.dst (.pointer (some ⟨b,0,none⟩))) w'):zg P ops K (Held w0 F Lr) ((o,c)::l) a w:=
 zM hc hw (ZQ w hx hz) (.inl rfl) (fun _ hh=>⟨hh.only.alloc _,hh.has.push _⟩) (h _ _ ((Below.refl _ w).alloc (Nat.le_refl _) _) (Nat.le_refl _) (hM.push _ (by simp[Res.holds])))
end
section
variable {w w' w0 w1 wr:World}{Y Y':km}{W W':aB}{V V':fh}{N M:Nat}{F F' F1 G:List Nat}{L A:List Ent}
theorem St.oh(hM:St wr F1 w L)(hf:zO L)(h:bE N Y W V wr)(hA: ∀ k∈fi Y W V,k∉F1): ∀ k∈ze L,k∉fi Y W V:=fun k hk hm=>by
 obtain⟨y,hy,rfl⟩:=laKz.1 hk
 rcases hM.own y hy (hf y hy) with h1|h1
 ·exact hA _ hm h1
 ·have:=h.lt _ hm
  omega
theorem Ix{U:World}(hM:St wr F1 U L)(hfl:zO L)(HO:Only [] w0 wr)(hR:bE N Y W V wr)(hA: ∀ k∈fi Y W V,w0.heap.size≤k∧k∉F1)(oo: ∀ k∈F1,w0.heap.size≤k):
  St U (ze L++lM Y W V) U L∧bE N Y W V U∧Only [] w0 U∧(∀ k∈ze L,w0.heap.size≤k∧k<U.heap.size∧k∉fi Y W V):=by
 have hap:=St.oh hM hfl hR fun k hk=>(hA k hk).2
 have hs:=HO.size
 refine⟨⟨Only.refl _ U,hM.holds,hM.nd,fun y hy _=> .inl (laEz _ (laLz hy))⟩,hR.only hM.only fun k hk=>(hA k hk).2,HO.then hM.only fun k hk=> .inr (oo k hk),fun k hk=>⟨?_,hM.whole.lt k hk,hap k hk⟩⟩
 obtain⟨y,hy,rfl⟩:=laKz.1 hk
 rcases hM.own y hy (hfl y hy) with h1|h1
 ·exact oo _ h1
 ·omega
theorem bE.wK:Y.w∈fi Y W V:= .head _
theorem bE.Bf:Y.d.d∈fi Y W V:= .tail _ (laEz _ cz.dK)
theorem bE.Iy:Y.d.now.f∈fi Y W V:= .tail _ (laEz _ cz.fK)
theorem Bg(a:Ent)(A B:List Ent):(A++(a::B)).Perm (a::(A++B)):=(zV (by intro _ x;simp only[lbKz,laXz,lbEz,lbLz,laIz,laJz];omega))
theorem Bh{a:Ent}{A B:List Ent}{k:Nat}(h:k∈ze (a::(A++B))):k∈ze A∨k∈ze (a::B):=by
 have h1:=((Bg a A B).map (·.1)).mem_iff.2 h
 rw[laMz,laAz] at h1
 exact h1
theorem Iz{x:ActV}(hf:x.Fit)(hs:bY ⟨0,false,x.op⟩):x.op.Ok:=⟨hf.op.kind,hf.op.h,hf.op.at_,hf.op.n,by have:x.op.path.size≤200:=hs.path;omega,by have:x.op.dest.size≤200:=hs.dest;omega,hf.op.data⟩
end
theorem Pc.lE{t:aT}(h:Pc.Fit t):(Pc.fR t).length≤1000000:=by
 unfold Pc.fR
 rw[lbMz]
 have:=h.few
 omega
theorem Wd.eI{N:Nat}{W:aB}(h:Wd.Inv N W)(a:ActV):(Wd.step W a).1.names.length≤N:=by
 unfold Wd.step
 split
 ·exact Nat.zero_le _
 split
 ·exact Nat.zero_le _
 split
 ·exact Nat.zero_le _
 unfold Wd.do_
 split
 ·exact Nat.zero_le _
 split
 ·unfold Wd.lv
  split<;> exact Nat.zero_le _
 ·exact Ol.eI h.aG
theorem IA(q:Int)(w:World)(hq:In.newE q=1):An 45 #[.int .i64 q] w (.tuple #[.pointer none,.int .i64 1]):=by
 have hM:=St.start w []
 have CN:=qh (fun U:World=>Hf q U hq)
 clear hq
 go_enter Tryz.func45,Tryz.ntmps45
 (refine qw ?_;intros;rename_i hM)
 (refine qCB (CN.out _) hM ?_;clear hM;intro w' hM)
 exact qwf
end
end Go.Proofs.YtcicjklhbnipcaaGreatDoor
