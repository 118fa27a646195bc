/-
  Laid texts.
-/
import Derived.Test.YtcicjklhbnipcaaGreatDoorPkWpK
set_option maxHeartbeats 16000000
set_option maxRecDepth 1000000
set_option linter.unusedVariables false
set_option linter.unusedSimpArgs false
namespace Go.Proofs.YtcicjklhbnipcaaGreatDoor
section
namespace In
section
variable {t:TabD}{N:Nat}
theorem wX(I:Inv N t)(U:Up t)(L:Fs.ao t): ∀ (k:Nat) (pre:List ByteArray),go t 1 pre≠0→(t.last≤pre.length+k∨8≤pre.length+k)→tree t (k+1) (go t 1 pre) pre=tree t k (go t 1 pre) pre
 |0,pre,h0,hk=>by
  have hn:(at_ t (go t 1 pre)).names=[]:=by
   refine Classical.byContradiction fun hc=> ?_
   obtain⟨p,r,EU⟩:=List.exists_cons_of_ne_nil hc
   have hp:p∈(at_ t (go t 1 pre)).names:=by rw[EU];exact .head _
   rcases hk with hk|hk
   ·have h1:=depth I U pre.length rfl h0 (cu I hc)
    obtain⟨n,hn⟩:=go_there I h0
    have:=dq I hn
    omega
   ·have h2:go t 1 (pre++[p.1])=p.2:=by rw[go_snoc,bB I hp]
    have h3:=L.paths (pre++[p.1]) (by simp) (by rw[h2];exact dQ I hp)
    have:=h3.few
    rw[laNz,lbQz] at this
    omega
  rw[sX hn,sX hn]
 |k+1,pre,h0,hk=>by
  rw[tree,tree]
  refine yt fun p hp=> ?_
  have h2:go t 1 (pre++[p.1])=p.2:=by rw[go_snoc,bB I hp]
  have ih:=wX I U L k (pre++[p.1]) (by rw[h2];exact dQ I hp) (by rw[laNz,lbQz];omega)
  rw[h2] at ih
  rw[ih]
theorem dr(I:Inv N t)(U:Up t)(L:Fs.ao t)(k:Nat)(hk:t.last≤k∨8≤k): ∀ m,tree t (k+m) 1 []=tree t k 1 []
 |0=>rfl
 |m+1=>by
  have:=wX I U L (k+m) [] (by show(1:Int)≠0;decide) (by simp only[lcGz];omega)
  rw[←dr I U L k hk m]
  exact this
end
end In
namespace Fs
theorem eT{N:Nat}{d:FsD}(I:In.Inv N d.t)(U:In.Up d.t)(L:ao d.t):under d.t 40 1 ⟨#[]⟩=files d:=by
 have h1:=YS L 40 1 [] nofun
 have h2:=YS L d.t.last.toNat 1 [] nofun
 have e:In.tree d.t 40 1 []=In.tree d.t d.t.last.toNat 1 []:=by
  have hl:=I.last.1
  have a:=In.dr I U L 8 (.inr (Nat.le_refl _)) 32
  by_cases h:d.t.last.toNat≤8
  ·have b:=In.dr I U L d.t.last.toNat (.inl (by omega)) (8 - d.t.last.toNat)
   rw[show d.t.last.toNat+(8 - d.t.last.toNat)=8 by omega] at b
   rw[←b]
   exact a
  ·have b:=In.dr I U L 8 (.inr (Nat.le_refl _)) (d.t.last.toNat - 8)
   rw[show 8+(d.t.last.toNat - 8)=d.t.last.toNat by omega] at b
   rw[b]
   exact a
 unfold files
 rw[show(⟨#[]⟩:ByteArray)=Pt.joined [] from rfl,h1,h2,e]
end Fs
end
section
open Go.RowKit Go.Maps
def bG(zs:List NodV):List (Lit×Value):=zs.map fun z=>(.int .i64 z.1.id,.agg z.cells.toArray)
theorem XN{zs:List NodV}{t:TabD}(hz:zs.map (·.1)=t.nodes){z:NodV}(h:z∈zs):z.1∈t.nodes:=by rw[←hz];exact laLz h
theorem wY{N:Nat}{t:TabD}(I:In.Inv N t){zs:List NodV}(hz:zs.map (·.1)=t.nodes){z:NodV}(h:z∈zs)(v:Value):yb (bG zs) (.int .i64 z.1.id) v= .agg z.cells.toArray:=by
 have key: ∀ zs:List NodV,(zs.map fun z=>z.1).Pairwise (fun a b=>a.id<b.id)→z∈zs→((bG zs).find? fun p=>p.1.sameKey (.int .i64 z.1.id))=some (.int .i64 z.1.id,.agg z.cells.toArray):=by
  intro zs hs hm
  induction zs with
  |nil=>cases hm
  |cons y r ih=>
   rw[laDz] at hs
   obtain⟨h1,h2⟩:=laVz.1 hs
   unfold bG
   rw[laDz,lbGz]
   rcases laBz.1 hm with rfl|hm'
   ·have:(Lit.int .i64 z.1.id).sameKey (.int .i64 z.1.id)=true:=by
     show decide (IntKind.i64=IntKind.i64∧z.1.id=z.1.id)=true
     simp
    rw[this]
   ·have hlt:=h1 z.1 (laLz hm')
    have:(Lit.int .i64 y.1.id).sameKey (.int .i64 z.1.id)=false:=by
     show decide (IntKind.i64=IntKind.i64∧y.1.id=z.1.id)=false
     simp
     omega
    rw[this]
    exact ih h2 hm'
 unfold yb
 rw[key zs (by rw[hz];exact I.asc) h]
theorem wZ(zs:List NodV):zO (zs.flatMap NodV.ents):=fun x hx=>by
 obtain⟨z,-,hx⟩:=laZz.1 hx
 exact zo _ _ _ _ x hx
structure lh where
 t3:Nat
 t6:Nat
 t7:Nat
 m:Nat
def fY(u:lh)(n:Nat)(s:Option (Nat×Nat)):List Ent:=[(u.t7,true,.cells [.func (.func 70) #[] #[.pointer (some ⟨u.t3,0,none⟩),.pointer (some ⟨u.t6,0,none⟩),.pointer (some ⟨u.t7,0,none⟩)]] 125),(u.t6,true,.cells [slV s n] 47),(u.t3,true,.cells [.map (some u.m)] 119)]
abbrev Yy(s:Option (Nat×Nat))(xs:List ah):List Ent:=slL s (xs.flatMap ah.cells) 112 3
abbrev YF(s:Option (Nat×Nat))(xs:List ah):Prop:=SlOK s xs.length (xs.flatMap ah.cells) 3
def eZ(u:lh)(zs:List NodV)(s:Option (Nat×Nat))(xs:List ah):List Ent:=fY u xs.length s++((u.m,true,mapR Tryz.prog 3 (bG zs))::(Yy s xs++zs.flatMap NodV.ents))
theorem xV(u:lh)(zs:List NodV)(s:Option (Nat×Nat))(xs:List ah):zO (eZ u zs s xs):=fun x hx=>by
 unfold eZ fY at hx
 simp only[laIz,laJz,laBz,laAz] at hx
 rcases hx with rfl|rfl|rfl|rfl|hx|hx
 ·rfl
 ·rfl
 ·rfl
 ·rfl
 ·exact zo _ _ _ _ x hx
 ·exact wZ zs x hx
def rI(u:lh)(zs:List NodV)(s:Option (Nat×Nat))(xs ys:List ah)(w:World)(e:Ending)(w':World):Prop:=
 e= .returned (.tuple #[])∧ ∃ s',YF s' (xs++ys)∧St w (ze (eZ u zs s xs)) w' (eZ u zs s' (xs++ys))
def fileOf(t:TabD)(dir:ByteArray)(p:ByteArray×Int):ah:=⟨Pt.join dir p.1,(In.at_ t p.2).dir,(In.at_ t p.2).data⟩
section
variable {N:Nat}{t:TabD}{zs:List NodV}{u:lh}{w:World}
theorem w6{A B:List NodV}{z:NodV}{g cap:Nat}(hz:z.2=some (g,cap))(n:Nat)(s:Option (Nat×Nat))(xs:List ah):
  (fY u n s++((u.m,true,mapR Tryz.prog 3 (bG zs))::(Yy s xs++(A++z::B).flatMap NodV.ents))).Perm
   ((g,true,.pre (entC z.1.names) 127 (cap*2))::(fY u n s++((u.m,true,mapR Tryz.prog 3 (bG zs))::(Yy s xs++(A.flatMap NodV.ents++B.flatMap NodV.ents))))):=by
 have e:z.ents=[(g,true,.pre (entC z.1.names) 127 (cap*2))]:=by unfold NodV.ents;rw[hz];rfl
 rw[laWz,laOz,e]
 have h1:(A.flatMap NodV.ents++([(g,true,Res.pre (entC z.1.names) 127 (cap*2))]++B.flatMap NodV.ents)).Perm ((g,true,Res.pre (entC z.1.names) 127 (cap*2))::(A.flatMap NodV.ents++B.flatMap NodV.ents)):=lcMz
 refine(List.Perm.append_left _ ((h1.append_left _).cons _)).trans ?_
 refine(List.Perm.append_left _ ((lcMz).cons _)).trans ?_
 refine(List.Perm.append_left _ (List.Perm.swap _ _ _)).trans ?_
 exact lcMz
theorem w7(hz:zs.map (·.1)=t.nodes)(I:In.Inv N t)(hN:N≤1000000000)(hks: ∀ z∈zs,SlOK z.2 z.1.names.length (entC z.1.names) 2)
  {z:NodV} (cY:z∈zs) {dir:ByteArray} (hd:dir.size≤4611686018427387904) (U:ByteArray×Int→List ah) {Bd:Nat} (I6:Bd≤1000000000)
  (IH: ∀ p∈z.1.names,∀ (xs:List ah) (s:Option (Nat×Nat)) (W:World),xs.length+(U p).length≤Bd→YF s xs→At (eZ u zs s xs) W→
   Calls Tryz.prog 70 #[.int .i64 p.2,.string (Pt.join dir p.1),.pointer (some ⟨u.t3,0,none⟩),.pointer (some ⟨u.t6,0,none⟩),.pointer (some ⟨u.t7,0,none⟩)] W (rI u zs s xs (U p) W))
  (xs:List ah) (s:Option (Nat×Nat)) (hB:xs.length+(z.1.names.flatMap fun p=>fileOf t dir p::U p).length≤Bd) (hok:YF s xs) (hA:At (eZ u zs s xs) w):
  Calls Tryz.prog 70 #[.int .i64 z.1.id,.string dir,.pointer (some ⟨u.t3,0,none⟩),.pointer (some ⟨u.t6,0,none⟩),.pointer (some ⟨u.t7,0,none⟩)] w (rI u zs s xs (z.1.names.flatMap fun p=>fileOf t dir p::U p) w):=by
 have hM:=hA.st
 unfold rI
 obtain⟨F,hF⟩: ∃ F,ze (eZ u zs s xs)=F:=⟨_,rfl⟩
 rw[hF] at hM ⊢
 clear hF hA
 have nC: ∀ z'∈zs,Fits z'.1.id:=fun z' hz'=>by
  have:=I.pos _ (XN hz hz')
  have:=I.last
  exact Zy (by omega) (by omega)
 have hid:=nC z cY
 obtain⟨sa,sc,hsv,hsa⟩:=zf (hks z cY)
 have hl:yb (bG zs) (.int .i64 z.1.id) zN= .agg #[.int .i64 z.1.id,.bool z.1.dir,.int .i64 z.1.links,.int .i64 z.1.holds,.string z.1.data,.slice sa z.1.names.length sc]:=by
  rw[wY I hz cY zN]
  unfold NodV.cells
  rw[hsv]
 obtain⟨A,B,hAB⟩:=List.append_of_mem cY
 have hnl:z.1.names.length≤1000000000:=by
  have h1:=In.le_sum (f:=fun n=>n.names.length) (XN hz cY)
  have h2:=I.tot
  unfold In.tot at h2
  omega
 have HOK:=qh hok
 have HZ:=qh (hks z cY)
 have CJ:=qh (fun (nm:ByteArray) (W:World) (hn:nm.size≤1000000)=>zlN dir nm W hd hn)
 unfold eZ at hM
 clear hok hd
 rcases hz2:z.2 with _|⟨g,cap⟩
 ·have h0:z.1.names=[]:=by
   have:=HZ.out
   rw[hz2] at this
   exact lcBz this.2
  have w8:z.1.names.length=0:=by rw[h0];rfl
  rw[w8] at hl
  rw[h0]
  unfold fY at hM
  simp only[laIz,laJz] at hM
  go_enter Tryz.func70,Tryz.ntmps70
  (refine qw ?_;intros;rename_i hM)
  refine St.lookup rfl hM rfl rfl rfl rfl qm zq Tryz.underlying119 zbp (keyOf_int_mk Tryz.underlying3 hid) hl ?_
  (refine qq ?_)
  refine St.field (off:=5) rfl rfl rfl rfl (by kernel_rfl) rfl ?_
  (refine qq ?_)
  (refine qw ?_;intros;rename_i hM)
  refine wp_loop_rounds 1 ?_
  (refine Zq (fun K hK=> ?_))
  (refine qw ?_;intros;rename_i hM)
  (refine qf ?_)
  refine⟨rfl,s,by rw[List.flatMap_nil,laYz];exact HOK.out, ?_⟩
  rw[List.flatMap_nil,laYz]
  exact hM
 ·obtain⟨rfl,rfl⟩:=hsa g cap hz2
  rw[show zs.flatMap NodV.ents=(A++z::B).flatMap NodV.ents by rw[←hAB]] at hM
  replace hM:=hM.perm (w6 hz2 _ _ _)
  have HP:=qh (fun (n:Nat) (s:Option (Nat×Nat)) (xs:List ah)=>w6 (u:=u) (zs:=zs) (A:=A) (B:=B) hz2 n s xs)
  have tj:=qh (show(A++z::B).flatMap NodV.ents=zs.flatMap NodV.ents by rw[←hAB])
  generalize (A++z::B).flatMap NodV.ents=E1 at*
  generalize A.flatMap NodV.ents++B.flatMap NodV.ents=E2 at*
  have HI:=qh I
  have tk:=qh hz
  have oI:=qh hks
  have EV:=qh nC
  have rJ:=qh IH
  have rK:=qh hB
  clear hAB hz2 hsa hsv I hz hks nC IH hB
  unfold fY at hM
  simp only[laIz,laJz] at hM
  go_enter Tryz.func70,Tryz.ntmps70
  (refine qw ?_;intros;rename_i hM)
  refine St.lookup rfl hM rfl rfl rfl rfl qm zq Tryz.underlying119 zbp (keyOf_int_mk Tryz.underlying3 hid) hl ?_
  (refine qq ?_)
  refine St.field (off:=5) rfl rfl rfl rfl (by kernel_rfl) rfl ?_
  (refine qq ?_)
  (refine qw ?_;intros;rename_i hM)
  go_loopw [16] (fun i wr=> ∃ (k:Nat) (s':Option (Nat×Nat)) (ys:List ah),k≤z.1.names.length∧i= .int .i64 k∧ys=xs++(z.1.names.take k).flatMap (fun p=>fileOf t dir p::U p)∧YF s' ys∧St w F wr ((g,true,.pre (entC z.1.names) 127 (sc*2))::(u.t7,true,.cells [.func (.func 70) #[] #[.pointer (some ⟨u.t3,0,none⟩),.pointer (some ⟨u.t6,0,none⟩),.pointer (some ⟨u.t7,0,none⟩)]] 125)::(u.t6,true,.cells [slV s' ys.length] 47)::(u.t3,true,.cells [.map (some u.m)] 119)::(u.m,true,mapR Tryz.prog 3 (bG zs))::(Yy s' ys++E2))) (fun i _=>z.1.names.length - (intOf i).toNat)
  case atStart=>exact⟨0,s,xs,by omega,rfl,by simp,HOK.out,hM⟩
  case round=>
   clear hM
   obtain⟨k,s',ys,hk,rfl,hys,l6,hM⟩:=hrel
   have tl:=qh hys
   have nD:=qh l6
   clear hys l6
   by_cases hlt:k<z.1.names.length
   ·obtain⟨p,hp⟩:=zK hlt
    obtain⟨nm,idv⟩:=p
    have hpm:=laQz hp
    have hzi:=XN tk.out cY
    have oJ:=HI.out.short _ hzi _ hpm
    obtain⟨n2,hn2⟩:=HI.out.leads _ hzi _ hpm
    simp only at oJ hn2
    obtain⟨ke,l7⟩:=In.find_some hn2
    obtain⟨zc,nE,fZ⟩: ∃ zc∈zs,zc.1=n2:=by
     rw[←tk.out] at ke
     obtain⟨zc,h1,h2⟩:=laKz.1 ke
     exact⟨zc,h1,h2⟩
    have hat:In.at_ t idv=zc.1:=by rw[In.at_some hn2,fZ]
    have gN:zc.1.id=idv:=by rw[fZ];exact l7
    obtain⟨ca,cc,hcv,-⟩:=zf (oI.out zc nE)
    have hl2:yb (bG zs) (.int .i64 idv) zN= .agg #[.int .i64 idv,.bool zc.1.dir,.int .i64 zc.1.links,.int .i64 zc.1.holds,.string zc.1.data,.slice ca zc.1.names.length cc]:=by
     rw[←gN,wY HI.out tk.out nE zN]
     unfold NodV.cells
     rw[hcv]
    have tm:Fits idv:=by rw[←gN];exact EV.out zc nE
    have tn:=zny hp
    have hfile:fileOf t dir (nm,idv)=⟨Pt.join dir nm,zc.1.dir,zc.1.data⟩:=by unfold fileOf;rw[hat]
    have iE:(z.1.names.take (k+1)).flatMap (fun p=>fileOf t dir p::U p)=(z.1.names.take k).flatMap (fun p=>fileOf t dir p::U p)++(⟨Pt.join dir nm,zc.1.dir,zc.1.data⟩::U (nm,idv)):=by
     rw[lbJz,hp,Option.toList_some,laWz,lbUz,hfile]
    have jn:(ys++[⟨Pt.join dir nm,zc.1.dir,zc.1.data⟩])++U (nm,idv)=xs++(z.1.names.take (k+1)).flatMap (fun p=>fileOf t dir p::U p):=by
     rw[iE,tl.out]
     simp
    have hlen:ys.length+1+(U (nm,idv)).length≤Bd:=by
     have h1:=congrArg List.length jn
     have h2:((z.1.names.take (k+1)).flatMap (fun p=>fileOf t dir p::U p)).length≤(z.1.names.flatMap fun p=>fileOf t dir p::U p).length:=by
      conv=>rhs;rw[←lcVz (k+1) z.1.names]
      rw[laWz,laNz]
      omega
     have h3:=rK.out
     rw[laNz,laNz,laNz,lbQz] at h1
     omega
    have CI:=qh (fun s' W h1 h2=>rJ.out (nm,idv) hpm (ys++[⟨Pt.join dir nm,zc.1.dir,zc.1.data⟩]) s' W (by rw[laNz,lbQz];exact hlen) h1 h2)
    have EW:=qh (fun W=>CJ.out nm W (by omega))
    have HY2:=qh jn
    have k1:(k:Int)<(z.1.names.length:Int):=by omega
    have EX:k*2+2≤(entC z.1.names).length:=by rw[yN];omega
    have hyl:ys.length+1≤1000000000:=by omega
    simp only at CI
    generalize Pt.join dir nm=J at*
    generalize U (nm,idv)=UP at*
    generalize zc.1.names.length=cn at*
    generalize zc.1.dir=zd at*
    generalize zc.1.links=zl at*
    generalize zc.1.holds=zh at*
    generalize zc.1.data=zt at*
    clear hp hpm hzi oJ hn2 ke l7 fZ hat gN hcv hfile iE jn hlen nE rK rJ CJ
    (refine qw ?_;intros;rename_i hM)
    refine St.loadRow rfl hM rfl rfl rfl rfl qm (by exact EX) (by kernel_rfl) ?_
    simp only[Res.known]
    rw[tn]
    (refine qq ?_)
    (refine qw ?_;intros;rename_i hM)
    refine St.lookup rfl hM rfl rfl rfl rfl qm zq Tryz.underlying119 zbp (keyOf_int_mk Tryz.underlying3 tm) hl2 ?_
    (refine qq ?_)
    (refine qw ?_;intros;rename_i hM)
    (refine qK3 (fun R hR=> ?_))
    refine(EW.out _).mono ?_
    (refine qgs ?_;clear hR R)
    (refine qw ?_;intros;rename_i hM)
    refine St.append (s:=s') (n:=ys.length) (xs:=ys.flatMap ah.cells) rfl hM rfl rfl rfl rfl rfl (by kernel_rfl) qsf nD.out rfl (hM.news qm) rfl (by rw[zj];omega) (by omega) (fun h=>by cases h) ?_
    clear hM;intro w s2 hM hk2 _
    have e1:ys.flatMap ah.cells++[.string J,.bool zd,.string zt]=(ys++[(⟨J,zd,zt⟩:ah)]).flatMap ah.cells:=by rw[laWz,lbUz];rfl
    have e2:ys.length+1=(ys++[(⟨J,zd,zt⟩:ah)]).length:=by simp
    simp only[Res.known] at hM hk2
    rw[e1] at hM hk2
    rw[e2] at hk2 ⊢
    have HK2:=qh hk2
    generalize ys++[(⟨J,zd,zt⟩:ah)]=kB at*
    obtain⟨a2,c2,eh,-⟩:=zf hk2
    rw[eh]
    clear e1 e2 hk2
    (refine qq ?_)
    (refine qw ?_;intros;rename_i hM)
    rename World=>w
    (refine St.callv rfl rfl rfl rfl (by kernel_rfl) (fun R hR=> ?_);simp only[lbOz,laDz,lbBz,Act.eval,zR,qGz,qGs,Array.append_empty,Array.empty_append])
    rw[←eh] at hM
    have hU:=hM.forget.forget.forget.perm (L':=fY u _ s2++((u.m,true,mapR Tryz.prog 3 (bG zs))::(Yy s2 _++E1))) (HP.out _ _ _).symm
    rw[tj.out] at hU
    clear hM
    change St _ F w (eZ u zs s2 kB) at hU
    refine(CI.out s2 w HK2.out hU.whole).mono ?_
    rintro e w' ⟨rfl,s3,aL,kC⟩
    have hM:=hU.backM Swap.all (xV _ _ _ _) kC (xV _ _ _ _)
    refine hR.out _ _ (fun _=>⟨hM.only,nofun⟩) ?_
    clear hR R hU kC CI HK2 nD
    rw[HY2.out] at hM aL
    have HK3:=qh aL
    clear aL
    unfold eZ at hM
    rw[←tj.out] at hM
    replace hM:=hM.perm (HP.out _ _ _)
    unfold fY at hM
    simp only[laIz,laJz] at hM
    (refine qq ?_)
    (refine qw ?_;intros;rename_i hM)
    (refine⟨?_,qio⟩;repeat(first|exact⟨⟨k+1,s3,_,by omega,rfl,rfl,HK3.out,hM⟩,rfl⟩|apply Exists.intro))
   ·have k0:¬((k:Int)<(z.1.names.length:Int)):=by omega
    obtain rfl:k=z.1.names.length:=by omega
    have hys:=tl.out
    rw[lbSz] at hys
    subst hys
    clear hlt hk tl
    (refine qw ?_;intros;rename_i hM)
    (refine qf ?_)
    refine⟨rfl,s',nD.out, ?_⟩
    have:=hM.perm (L':=fY u _ s' ++((u.m,true,mapR Tryz.prog 3 (bG zs))::(Yy s' _++E1))) (HP.out _ _ _).symm
    rw[tj.out] at this
    exact this
theorem tp(d n:ByteArray):(Pt.join d n).size≤d.size+n.size+1:=by
 unfold Pt.join
 split
 ·rw[ByteArray.size_append];omega
 ·rw[ByteArray.size_append,ByteArray.size_append]
  have:Pt.slash.size=1:=rfl
  omega
theorem EY(hz:zs.map (·.1)=t.nodes)(I:In.Inv N t){z:NodV}(h:z∈zs):In.at_ t z.1.id=z.1:=In.at_some (In.find_asc I.asc (XN hz h))
theorem w9(hz:zs.map (·.1)=t.nodes)(I:In.Inv N t)(jo:In.Up t)(hN:N≤1000000000)(hks: ∀ z∈zs,SlOK z.2 z.1.names.length (entC z.1.names) 2):
  ∀ (k:Nat) (z:NodV),z∈zs→(z.1.names=[]∨t.last+1≤z.1.id+k)→ ∀ (dir:ByteArray),dir.size+33*k≤4611686018427387904→ ∀ (xs:List ah) (s:Option (Nat×Nat)) (W:World),xs.length+(Fs.under t k z.1.id dir).length≤1000000000→YF s xs→At (eZ u zs s xs) W→
   Calls Tryz.prog 70 #[.int .i64 z.1.id,.string dir,.pointer (some ⟨u.t3,0,none⟩),.pointer (some ⟨u.t6,0,none⟩),.pointer (some ⟨u.t7,0,none⟩)] W (rI u zs s xs (Fs.under t k z.1.id dir) W)
 |0,z,cY,hl,dir,hd,xs,s,W,hB,hok,hA=>by
  have h0:z.1.names=[]:=by
   rcases hl with h|h
   ·exact h
   ·have:=(I.pos _ (XN hz cY)).2
    omega
  have:=w7 hz I hN hks cY (dir:=dir) (by omega) (fun _=>[]) (Bd:=1000000000) (Nat.le_refl _) (fun p hp=>by rw[h0] at hp;cases hp) xs s (by rw[h0,List.flatMap_nil];exact hB) hok hA
  rw[h0] at this
  exact this
 |k+1,z,cY,hl,dir,hd,xs,s,W,hB,hok,hA=>by
  have e:Fs.under t (k+1) z.1.id dir=z.1.names.flatMap fun p=>fileOf t dir p::Fs.under t k p.2 (Pt.join dir p.1):=by
   show((In.at_ t z.1.id).names.flatMap fun p=>fileOf t dir p::Fs.under t k p.2 (Pt.join dir p.1))=_
   rw[EY hz I cY]
  rw[e] at hB ⊢
  refine w7 hz I hN hks cY (by omega) (fun p=>Fs.under t k p.2 (Pt.join dir p.1)) (Bd:=1000000000) (Nat.le_refl _) (fun p hp EZ s' W' E3 l6 hA'=> ?_) xs s hB hok hA
  have hzi:=XN hz cY
  have oJ:=I.short _ hzi _ hp
  obtain⟨n2,hn2⟩:=I.leads _ hzi _ hp
  obtain⟨ke,l7⟩:=In.find_some hn2
  obtain⟨zc,nE,fZ⟩: ∃ zc∈zs,zc.1=n2:=by
   rw[←hz] at ke
   obtain⟨zc,h1,h2⟩:=laKz.1 ke
   exact⟨zc,h1,h2⟩
  have gN:zc.1.id=p.2:=by rw[fZ];exact l7
  have hj:=tp dir p.1
  have key:=w9 hz I jo hN hks k zc nE ?_ (Pt.join dir p.1) (by omega) EZ s' W' (by rw[gN];exact E3) l6 hA'
  ·rw[gN] at key
   exact key
  ·cases w_:zc.1.dir with
   |false=>exact .inl (I.files _ (XN hz nE) w_)
   |true=>
    refine .inr ?_
    have hlt:=jo z.1.id z.1 p n2 (In.find_asc I.asc hzi) hp hn2 (by rw[←fZ];exact w_)
    rcases hl with h|h
    ·rw[h] at hp;cases hp
    ·omega
theorem E4(I:In.Inv N t)(hz:zs.map (·.1)=t.nodes){k:Nat}{z:NodV}(h:zs[k]? =some z):putL (.int .i64 z.1.id) (.agg z.cells.toArray) (bG (zs.take k))=bG (zs.take (k+1)):=by
 have hs:(zs.map fun z=>z.1).Pairwise (fun a b=>a.id<b.id):=by rw[hz];exact I.asc
 have key: ∀ (l:List NodV),(∀ y∈l,y.1.id<z.1.id)→putL (.int .i64 z.1.id) (.agg z.cells.toArray) (bG l)=bG (l++[z]):=fun l hl=>by
  have ij:delL (.int .i64 z.1.id) (bG l)=bG l:=by
   unfold delL
   rw[lcLz]
   intro x hx
   obtain⟨y,hy,rfl⟩:=laKz.1 hx
   have:=hl y hy
   show(!decide (IntKind.i64=IntKind.i64∧y.1.id=z.1.id))=true
   have hne:y.1.id≠z.1.id:=by omega
   simp[hne]
  unfold putL
  rw[ij]
  clear ij
  induction l with
  |nil=>rfl
  |cons y r ih=>
   have h1:=hl y (.head _)
   have pE:=ih fun y' hy'=>hl y' (.tail _ hy')
   unfold bG at pE ⊢
   rw[laDz,laIz,laDz]
   unfold insL
   rw[if_neg (show ¬(Lit.int .i64 z.1.id).before (.int .i64 y.1.id)=true by simp[Lit.before];omega)]
   rw[pE]
 rw[key _ (fun y hy=> ?_)]
 ·rw[lbJz,h]
  rfl
 ·obtain⟨i,hi,rfl⟩:=List.mem_take_iff_getElem.1 hy
  obtain⟨hk,rfl⟩:=laHz.1 h
  rw[lcJz] at hs
  exact List.pairwise_iff_getElem.1 hs i k (by omega) hk (by omega)
theorem E5{k:Nat}{z:NodV}(h:zs[k]? =some z):((zs.flatMap NodV.cells).drop (k*6)).take 6=z.cells:=by
 induction zs generalizing k with
 |nil=>simp at h
 |cons p r ih=>
  cases k with
  |zero=>
   rw[lbPz] at h
   cases h
   rfl
  |succ k=>
   rw[lbFz] at h
   have:=ih h
   rw[show(k+1)*6=k*6+6 by omega]
   exact this
theorem x9: ∀ (l:List NodeD) (lo hi:Int),In.asc l→(∀ n∈l,lo<n.id∧n.id≤hi)→lo≤hi→(l.length:Int)≤hi - lo
 |[],lo,hi,_,_,h=>by simp;omega
 |y::r,lo,hi,hs,hb,_=>by
  obtain⟨h1,h2⟩:=laVz.1 hs
  have hy:=hb y (.head _)
  have:=x9 r y.id hi h2 (fun n hn=>⟨h1 n hn,(hb n (.tail _ hn)).2⟩) (by omega)
  rw[laPz]
  omega
theorem x_(I:In.Inv N t):t.nodes.length≤N:=by
 have:=x9 t.nodes 0 t.last I.asc (fun n hn=>by have:=I.pos n hn;omega) (by have:=I.last;omega)
 have:=I.last
 omega
theorem y1(I:In.Inv N t){n:NodeD}(hn:n∈t.nodes):n.names.length≤N:=by
 have h1:=In.le_sum (f:=fun n=>n.names.length) hn
 have h2:=I.tot
 unfold In.tot at h2
 exact Nat.le_trans h1 h2
def yn(xs:List ah)(w:World)(e:Ending)(w':World):Prop:= ∃ s,e= .returned (slV s xs.length)∧YF s xs∧St w [] w' (Yy s xs)
end
section
variable {N:Nat}{x:FsX}{β:Int→Nat×Nat}{d:FsD}{w:World}
theorem y2{w0:World}(h:FsAt N x β d w0)(jo:In.Up d.t)(hN:N≤1000000):Calls Tryz.prog 20 #[.pointer (some ⟨x.f,0,none⟩)] w0 (yn (Fs.files d) w0):=by
 have hM:=h.at_.ro
 unfold fsL at hM
 simp only[laDz,zx] at hM
 have HF:=qh h
 have tq:=qh (Fs.ck h.inv jo)
 have E6:=qh jo
 have HI:=qh h.inv.tbl
 clear h jo
 generalize List.map zx (tblL x.g x.mb β d.t)=E0 at*
 go_enter Tryz.func20,Tryz.ntmps20
 (repeat(first|(refine qW ?_;intros;rename_i hM)|(refine qMk ?_;clear hM;intro w bk hM)))
 (refine qK3 (fun R hR=> ?_))
 refine(yy (HF.out.below hM.to_below)).mono ?_
 (refine qgs ?_;clear hR R)
 (repeat(first|(refine qW ?_;intros;rename_i hM)|(refine qMk ?_;clear hM;intro w bk hM)))
 refine St.makeMap (kt:=3) rfl hM rfl rfl (fun w=> ?_) ?_
 ·go_simp
  simp[Instr.makeMap,newObj,Sem.run]
 clear hM;intro w b hM
 (refine qq ?_)
 (repeat(first|(refine qW ?_;intros;rename_i hM)|(refine qMk ?_;clear hM;intro w bk hM)))
 (refine qK3 (fun R hR=> ?_))
 refine(zhU (HF.out.below hM.to_below).tbl (by have:=HI.out.q0;omega) (fun n hn=>Zy (by have:=HI.out.pos n hn;omega) (by have:=HI.out.pos n hn;have:=HI.out.last;omega)) (Nat.le_trans (x_ HI.out) hN) (fun n hn=>Nat.le_trans (y1 HI.out hn) hN) (fun n hn=>HI.out.sorted n hn)).mono ?_
 rintro e w' ⟨s0,zs,rfl,hz,hs0,hks,hN2⟩
 have HZ:=qh hz
 have oI:=qh hks
 replace hM:=hM.madeM hN2 (fun y hy=>(laAz.1 hy).elim (zo _ _ _ _ y) (wZ zs y))
 refine hR.out _ _ ?_;clear hR R hN2
 obtain⟨va,vc,hsv,hsa⟩:=zf hs0
 rw[hsv]
 have y5:=qh hs0
 have nc:zs.length≤1000000:=by
  have h1:=x_ HI.out
  rw[←hz,lbMz] at h1
  omega
 clear hz hks hs0 hsv
 replace hM:=hM.perm (L':=slL s0 (zs.flatMap NodV.cells) 124 6++((bk,true,.cells [.map (some b)] 119)::(b,true,mapR Tryz.prog 3 [])::(zs.flatMap NodV.ents++((x.f,false,.cells [.pointer (some ⟨x.g,0,none⟩),.map (some x.hb)] 44)::(x.hb,false,mapR Tryz.prog 3 (ZM d.h))::E0)))) (zV (by intro _ x;simp only[lbKz,laXz,lbEz,lbLz,laIz,laJz];omega))
 generalize (x.f,false,Res.cells [Value.pointer (some ⟨x.g,0,none⟩),.map (some x.hb)] 44)::(x.hb,false,mapR Tryz.prog 3 (ZM d.h))::E0=E1 at*
 generalize bk=nF at*
 (refine qq ?_)
 (repeat(first|(refine qW ?_;intros;rename_i hM)|(refine qMk ?_;clear hM;intro w bk hM)))
 go_loopw [18] (fun i wr=> ∃ k:Nat,k≤zs.length∧i= .int .i64 k∧St w0 [] wr (slL s0 (zs.flatMap NodV.cells) 124 6++((nF,true,.cells [.map (some b)] 119)::(b,true,mapR Tryz.prog 3 (bG (zs.take k)))::(zs.flatMap NodV.ents++E1)))) (fun i _=>zs.length - (intOf i).toNat)
 case atStart=>exact⟨0,by omega,rfl,by rw[List.take_zero];exact hM⟩
 case round=>
  clear hM
  obtain⟨k,hk,rfl,hM⟩:=hrel
  by_cases hlt:k<zs.length
  ·obtain⟨z,jq⟩:=zK hlt
   cases s0 with
   |none=>exact absurd y5.out.2 (by omega)
   |some gc=>
   obtain⟨g0,tr⟩:=gc
   obtain⟨rfl,rfl⟩:=hsa g0 tr rfl
   have cY:=laQz jq
   have hrow:=E5 jq
   have hput:=E4 HI.out HZ.out jq
   have tm:Fits z.1.id:=by
    have:=HI.out.pos _ (XN HZ.out cY)
    have:=HI.out.last
    exact Zy (by omega) (by omega)
   obtain⟨ca,cc,hcv,-⟩:=zf (oI.out z cY)
   have hcells:z.cells=[.int .i64 z.1.id,.bool z.1.dir,.int .i64 z.1.links,.int .i64 z.1.holds,.string z.1.data,.slice ca z.1.names.length cc]:=by
    unfold NodV.cells
    rw[hcv]
   rw[hcells] at hrow hput
   have hlen:k*6+6≤(zs.flatMap NodV.cells).length:=by
    have:=y5.out.1
    omega
   have k1:(k:Int)<(zs.length:Int):=by omega
   have pf:(bG (zs.take k)).length<maxLen:=by
    unfold bG
    rw[lbMz,lbTz,zj]
    omega
   clear jq cY hcv hlt hcells
   simp only[slL,laIz,laJz] at hM
   (repeat(first|(refine qW ?_;intros;rename_i hM)|(refine qMk ?_;clear hM;intro w bk hM)))
   refine St.loadRow rfl hM rfl rfl rfl rfl qm (by exact hlen) (by kernel_rfl) ?_
   simp only[Res.known]
   rw[hrow]
   (refine qq ?_)
   (repeat(first|(refine qW ?_;intros;rename_i hM)|(refine qMk ?_;clear hM;intro w bk hM)))
   refine St.mapUpdate (kl:= .int .i64 z.1.id) (key:= .int .i64 z.1.id) (val:= .agg #[.int .i64 z.1.id,.bool z.1.dir,.int .i64 z.1.links,.int .i64 z.1.holds,.string z.1.data,.slice ca z.1.names.length cc]) (m':=bG (zs.take (k+1))) rfl hM rfl rfl rfl rfl rfl qm hput zq Tryz.underlying119 pf (keyOf_int_mk Tryz.underlying3 tm) (fun h=>by cases h) ?_
   clear hM;intro w hM
   (refine qq ?_)
   (repeat(first|(refine qW ?_;intros;rename_i hM)|(refine qMk ?_;clear hM;intro w bk hM)))
   replace hM:=hM.forget
   (refine⟨?_,qio⟩;repeat(first|exact⟨⟨k+1,by omega,rfl,hM⟩,rfl⟩|apply Exists.intro))
  ·have k0:¬((k:Int)<(zs.length:Int)):=by omega
   obtain rfl:k=zs.length:=by omega
   rw[lbSz] at hM
   clear hlt hk
   try(refine qW ?_;clear hM;intros;rename_i hM)
   ((refine qMk ?_);clear hM;intro w oK hM)
   (repeat(first|(refine qW ?_;intros;rename_i hM)|(refine qMk ?_;clear hM;intro w bk hM)))
   generalize bk=oL at*
   rename World=>w
   (refine St.callv rfl rfl rfl rfl (by kernel_rfl) (fun R hR=> ?_);simp only[lbOz,laDz,lbBz,Act.eval,zR,qGz,qGs,Array.append_empty,Array.empty_append])
   replace hM:=hM.perm (L':=((oL,true,.cells [.func (.func 70) #[] #[.pointer (some ⟨nF,0,none⟩),.pointer (some ⟨oK,0,none⟩),.pointer (some ⟨oL,0,none⟩)]] 125)::(oK,true,.cells [.slice none 0 0] 47)::(nF,true,.cells [.map (some b)] 119)::(b,true,mapR Tryz.prog 3 (bG zs))::zs.flatMap NodV.ents)++(slL s0 (zs.flatMap NodV.cells) 124 6++E1)) (zV (by intro _ x;simp only[lbKz,laXz,lbEz,lbLz,laIz,laJz];omega))
   obtain⟨r,hr,hrd⟩:=HI.out.root
   obtain⟨y7,E7⟩:=In.find_some hr
   obtain⟨z,cY,m_⟩: ∃ z∈zs,z.1=r:=by
    rw[←HZ.out] at y7
    obtain⟨z,h1,h2⟩:=laKz.1 y7
    exact⟨z,h1,h2⟩
   have hz1:z.1.id=1:=by rw[m_];exact E7
   have CU:=qh (w9 (u:=⟨nF,oK,oL,b⟩) HZ.out HI.out E6.out (Nat.le_trans hN (by decide)) oI.out d.t.last.toNat z cY (.inr (by have:=HI.out.last;omega)) ⟨#[]⟩ (by
    have:=HI.out.last
    have e:(⟨#[]⟩:ByteArray).size=0:=rfl
    omega) [] none w (by
    rw[hz1]
    have:=tq.out
    unfold Fs.files at this
    rw[lcGz]
    omega) ⟨rfl,rfl⟩ (hM.part Part.here))
   have e1:Fs.under d.t d.t.last.toNat z.1.id ⟨#[]⟩=Fs.files d:=by rw[hz1];rfl
   rw[hz1] at CU
   refine CU.out.mono ?_
   rintro e w' ⟨rfl,s3,aL,kC⟩
   rw[←hz1,e1,laJz] at aL kC
   have hM:=hM.backM Swap.here (xV ⟨nF,oK,oL,b⟩ zs none []) kC (xV _ _ _ _)
   refine hR.out _ _ (fun _=>⟨hM.only,nofun⟩) ?_
   clear hR R kC CU
   obtain⟨a3,c3,iP,-⟩:=zf aL
   have HK3:=qh aL
   clear aL
   unfold eZ fY at hM
   rw[iP] at hM
   simp only[laIz,laJz] at hM
   (refine qq ?_)
   (repeat(first|(refine qW ?_;intros;rename_i hM)|(refine qMk ?_;clear hM;intro w bk hM)))
   rw[←iP] at hM
   (refine qf ?_)
   refine⟨s3,by rw[←iP];rfl,HK3.out,St.front (M:=Yy s3 (Fs.files d)) (R:=(oL,true,.cells [.func (.func 70) #[] #[.pointer (some ⟨nF,0,none⟩),.pointer (some ⟨oK,0,none⟩),.pointer (some ⟨oL,0,none⟩)]] 125)::(oK,true,.cells [slV s3 (Fs.files d).length] 47)::(nF,true,.cells [.map (some b)] 119)::(b,true,mapR Tryz.prog 3 (bG zs))::(zs.flatMap NodV.ents++(slL s0 (zs.flatMap NodV.cells) 124 6++E1))) (hM.perm (zV (by intro _ x;simp only[lbKz,laXz,lbEz,lbLz,laIz,laJz];omega)))⟩
end
end
section
open Go.RowKit Go.Maps
abbrev aj:=a_×(Nat×Nat)
def aj.val(z:aj):Value:=match z.1.2 with
 |some _=> .func (.func 83) #[] #[.pointer (some ⟨z.2.1,0,none⟩),.pointer (some ⟨z.2.2,0,none⟩)]
 |none=> .func (.func 90) #[] #[.pointer (some ⟨z.2.1,0,none⟩)]
def aj.ents(z:aj):List Ent:=match z.1.2 with
 |some p=>[(z.2.1,true,.cells [.int .i64 z.1.1] 3),(z.2.2,true,.cells p.cells 34)]
 |none=>[(z.2.1,true,.cells [.int .i64 z.1.1] 3)]
theorem E8(zs:List aj):zO (zs.flatMap aj.ents):=fun x hx=>by
 obtain⟨z,-,hx⟩:=laZz.1 hx
 unfold aj.ents at hx
 split at hx
 ·simp only[laBz,lbRz,or_false] at hx
  rcases hx with rfl|rfl<;> rfl
 ·simp only[laBz,lbRz,or_false] at hx
  subst hx
  rfl
structure cI where
 b:Nat
 now:FsX
 sure:FsX
 s:Option (Nat×Nat)
 zs:List aj
def au(b f g:Nat)(s:Option (Nat×Nat))(n:Nat):Ent:=(b,true,.cells [.pointer (some ⟨f,0,none⟩),.pointer (some ⟨g,0,none⟩),slV s n] 81)
abbrev aS(s:Option (Nat×Nat))(vs:List Value):List Ent:=slL s vs 138 1
def bp(X:cI)(β γ:Int→Nat×Nat)(D:ar):List Ent:=au X.b X.now.f X.sure.f X.s X.zs.length::(fsL X.now β D.now++(aS X.s (X.zs.map aj.val)++(fsL X.sure γ D.base++X.zs.flatMap aj.ents)))
structure fO (X:cI) (D:ar):Prop where
 log:X.zs.map (·.1)=D.log
 sl:SlOK X.s X.zs.length (X.zs.map aj.val) 1
theorem yE(X:cI)(β γ:Int→Nat×Nat)(D:ar):zO (bp X β γ D):=fun y hy=>by
 unfold bp at hy
 rcases laBz.1 hy with rfl|hy
 ·rfl
 rcases laAz.1 hy with hy|hy
 ·exact zr _ _ _ y hy
 rcases laAz.1 hy with hy|hy
 ·exact zo _ _ _ _ y hy
 rcases laAz.1 hy with hy|hy
 ·exact zr _ _ _ y hy
 ·exact E8 _ y hy
structure cw (N:Nat) (X:cI) (β γ:Int→Nat×Nat) (D:ar) (w:World):Prop where
 at_:At (bp X β γ D) w
 ok:fO X D
 inv:Ol.Inv N D
 mx:Mx w
 zero:0∉ze (bp X β γ D)
def y8(w:World)(X:cI)(β γ:Int→Nat×Nat)(D:ar)(w':World)(D':ar):Prop:= ∃ X' β' γ',cI.b X'=X.b∧fO X' D'∧St w (ze (bp X β γ D)) w' (bp X' β' γ' D')
section
variable {N:Nat}{X:cI}{x y:FsX}{β γ:Int→Nat×Nat}{D:ar}{d:FsD}{w w' w0:World}{F:List Nat}{L L' M M':List Ent}{b f g n:Nat}{s:Option (Nat×Nat)}
theorem Ys{M L:List Ent}(hs:M.Sublist L){k:Nat}(h:k∉ze L):k∉ze M:=fun hm=>h ((hs.map _).subset hm)
theorem cw.below(h:cw N X β γ D w)(hb:Below w.heap.size w w'):cw N X β γ D w':=⟨h.at_.below hb,h.ok,h.inv,h.mx.below hb,h.zero⟩
theorem y9:(fsL X.now β D.now).Sublist (bp X β γ D):=by
 unfold bp
 exact((lbAz _ _)).cons _
theorem cw.now(h:cw N X β γ D w):FsAt N X.now β D.now w:=⟨h.at_.sub y9,h.inv.now.inv,h.mx,Ys y9 h.zero⟩
theorem cw.row(h:cw N X β γ D w):(au X.b X.now.f X.sure.f X.s X.zs.length).2.2.holds w.heap[X.b]? :=h.at_.has (au X.b X.now.f X.sure.f X.s X.zs.length) (by unfold bp;exact .head _)
theorem St.gD(hM:St w0 F w L)(hs:Part L (bp X β γ D))(hk:fO X D)(hI:Ol.Inv N D)(hm:Mx w0)(h0:0∉F):cw N X β γ D w:=by
 refine⟨hM.part hs,hk,hI,hM.mx hm h0,fun h=> ?_⟩
 obtain⟨y,hy,e⟩:=laKz.1 h
 obtain⟨A,B,rfl⟩:=hs.split
 rcases hM.own y (by simp[hy]) (yE X β γ D y hy) with h1|h1
 ·rw[e] at h1;exact h0 h1
 ·have:=hm.pos
  omega
theorem St.one{r:Res}(h:r.holds w.heap[b]?):St w [] w [(b,false,r)]:=(St.start w []).learn h nofun nofun
theorem ye(h:(au b f g s n).2.2.holds w.heap[b]?):Calls Tryz.prog 76 #[.pointer (some ⟨b,0,none⟩)] w fun e w'=>e= .returned (.bool true)∧w=w':=by
 have hM:=St.one h
 clear h
 unfold au at hM
 go_enter Tryz.func76,Tryz.ntmps76
 (refine qw ?_;intros;rename_i hM)
 (refine qf ?_)
 exact⟨rfl,rfl⟩
theorem E9(h:(au b f g s n).2.2.holds w.heap[b]?){xs:List Value}(hk:SlOK s n xs 1):An 31 #[.pointer (some ⟨b,0,none⟩)] w (.int .i64 n):=by
 have hM:=St.one h
 clear h
 unfold au at hM
 obtain⟨va,vc,hv,-⟩:=zf hk
 rw[hv] at hM
 go_enter Tryz.func31,Tryz.ntmps31
 exact qwf
theorem E_(h:(au b x.f g s n).2.2.holds w.heap[b]?)(hA:FsAt N x β d w):An 35 #[.pointer (some ⟨b,0,none⟩)] w (.int .i64 d.t.used):=by
 have hM:=St.one h
 have HW:=qh h
 unfold au at hM
 go_enter Tryz.func35,Tryz.ntmps35
 (refine qw ?_;intros;rename_i hM)
 (refine qKx ?_;intro R hR)
 refine(ye (hM.only.holds HW.out)).mono ?_
 (refine qgs ?_;clear hR R)
 (refine qw ?_;intros;rename_i hM)
 (refine qKx ?_;intro R hR)
 refine(zjI (hA.below hM.to_below)).mono ?_
 rintro e w' ⟨rfl,hb⟩;replace hM:=hM.below hb;refine qho ?_;clear hR R hb;(refine qq ?_)
 exact qwf
theorem y_(hA:FsAt N x β d w)(hN:N≤1000000000)(h:At (au b x.f g s n::fsL x β d) w):Calls Tryz.prog 80 #[.pointer (some ⟨b,0,none⟩)] w fun e w'=>e= .returned (.tuple #[])∧ ∃ x' γ',St w [b] w' (au b x.f (FsX.f x') none 0::fsL x' γ' d):=by
 have hM:St w [b] w [au b x.f g s n]:=(h.sub (M:=[au b x.f g s n]) (by simp)).st
 have hap: ∀ k∈ze (fsL x β d),k∉[b]:=fun k hk hm=>by
  have:=h.nd
  unfold ze at this hk
  rw[laDz,laTz] at this
  rcases laGz.1 hm with rfl
  exact this.1 hk
 have HF:=qh hA
 clear h hA
 unfold au at hM
 go_enter Tryz.func80,Tryz.ntmps80
 (refine qw ?_;intros;rename_i hM)
 (refine qKx ?_;intro R hR)
 refine(YR HF.out hN).mono ?_
 rintro e w' ⟨x',γ',rfl,hN2⟩
 replace hM:=hM.madeM hN2 (zr _ _ _)
 refine hR.out _ _ (fun h=>h.below hN2.to_below) ?_;clear hR R hN2
 replace hM:=hM.perm (L':=_::fsL x' γ' d) (lcWz)
 (refine qq ?_)
 (refine qw ?_;intros;rename_i hM)
 (refine qf ?_)
 exact⟨rfl,x',γ',hM⟩
theorem z6{vs:List Value}{tt:FuncId}{caps:Array Value}(hk:SlOK s n vs 1)(hn:n≤1000000000)(h:At (au b f g s n::aS s vs) w):Calls Tryz.prog 82 #[.pointer (some ⟨b,0,none⟩),.func (.func tt) #[] caps] w fun e w'=>e= .returned (.tuple #[])∧ ∃ s',SlOK s' (n+1) (vs++[.func (.func tt) #[] caps]) 1∧St w (ze (au b f g s n::aS s vs)) w' (au b f g s' (n+1)::aS s' (vs++[.func (.func tt) #[] caps])):=by
 have hM:=h.st
 obtain⟨F,hF⟩: ∃ F,ze (au b f g s n::aS s vs)=F:=⟨_,rfl⟩
 rw[hF] at hM ⊢
 have HK:=qh hk
 clear hF h hk
 unfold au at hM
 go_enter Tryz.func82,Tryz.ntmps82
 (refine qw ?_;intros;rename_i hM)
 refine St.append (s:=s) (n:=n) (xs:=vs) rfl hM rfl rfl rfl rfl rfl (by kernel_rfl) qsf HK.out rfl (hM.news qm) rfl (by rw[zj];omega) (by omega) (fun h=>by cases h) ?_
 clear hM;intro w s' hM hk' hs'
 simp only[Res.known] at hM hk'
 obtain⟨va,vc,hv,-⟩:=zf hk'
 rw[hv]
 have HK':=qh hk'
 clear hk' hs'
 (refine qq ?_)
 (refine qw ?_;intros;rename_i hM)
 rw[←hv] at hM
 (refine qf ?_)
 exact⟨rfl,s',HK'.out,hM.forget⟩
theorem Fa(h:(au b x.f g s n).2.2.holds w.heap[b]?)(hA:FsAt N x β d w)(jo:In.Up d.t)(hN:N≤1000000):Calls Tryz.prog 29 #[.pointer (some ⟨b,0,none⟩)] w (yn (Fs.files d) w):=by
 have hM:=St.one h
 have HW:=qh h
 unfold au at hM
 go_enter Tryz.func29,Tryz.ntmps29
 (refine qw ?_;intros;rename_i hM)
 (refine qKx ?_;intro R hR)
 refine(ye (hM.only.holds HW.out)).mono ?_
 (refine qgs ?_;clear hR R)
 (refine qw ?_;intros;rename_i hM)
 (refine qKx ?_;intro R hR)
 refine(y2 (hA.below hM.to_below) jo hN).mono ?_
 rintro e w' ⟨s1,rfl,hk,hN2⟩
 replace hM:=hM.madeM hN2 (zo _ _ _ _)
 refine hR.out _ _ (fun h=>⟨hM.only,nofun⟩) ?_;clear hR R hN2;(refine qq ?_)
 (refine qw ?_;intros;rename_i hM)
 (refine qf ?_)
 exact⟨s1,rfl,hk,St.front hM⟩
theorem Fb(q:Int)(w:World)(hq:In.newE q=0)(hX:Mx w):Calls Tryz.prog 23 #[.int .i64 q] w fun e w'=> ∃ X β γ,e= .returned (.tuple #[.pointer (some ⟨cI.b X,0,none⟩),.int .i64 0])∧fO X (Ol.new q)∧St w [] w' (bp X β γ (Ol.new q)):=by
 have hM:=St.start w []
 have HX:=qh hX
 have F0:0∉([]:List Nat):=nofun
 have CN:=qh (fun W:World=>zmA q W hq)
 have I0:=qh (show Fs.Inv 1 (Fs.new q) from by
  unfold In.newE at hq
  by_cases c:(decide (q<64)||decide (1099511627776<q))=true
  ·rw[if_pos c] at hq;cases hq
  ·simp only[Bool.or_eq_true,decide_eq_true_eq] at c
   exact Fs.inv_new (by omega) (by omega))
 clear hq hX
 go_enter Tryz.func23,Tryz.ntmps23
 (repeat(first|(refine qW ?_;intros;rename_i hM)|(refine qMk ?_;clear hM;intro w bk hM)))
 (refine qKx ?_;intro R hR)
 refine(CN.out _).mono ?_
 rintro e w' ⟨x,β,rfl,hN⟩
 replace hM:=hM.madeM hN (zr _ _ _)
 refine hR.out _ _ (fun h=>h.below hN.to_below) ?_;clear hR R hN
 (refine qq ?_)
 (repeat(first|(refine qW ?_;intros;rename_i hM)|(refine qMk ?_;clear hM;intro w bk hM)))
 (refine qKx ?_;intro R hR)
 refine(YR (hM.fs (x:=x) (β:=β) (d:=Fs.new q) qpt I0.out HX.out F0) (by decide)).mono ?_
 rintro e w' ⟨x',γ,rfl,hN⟩
 replace hM:=hM.madeM hN (zr _ _ _)
 refine hR.out _ _ (fun h=>h.below hN.to_below) ?_;clear hR R hN
 (refine qq ?_)
 (repeat(first|(refine qW ?_;intros;rename_i hM)|(refine qMk ?_;clear hM;intro w bk hM)))
 (refine qf ?_)
 refine⟨⟨bk,x,x',none,[]⟩,β,γ,rfl,⟨rfl,⟨rfl,rfl⟩⟩, ?_⟩
 exact hM.perm (L':=(bk,true,.cells [.pointer (some ⟨x.f,0,none⟩),.pointer (some ⟨x'.f,0,none⟩),.slice none 0 0] 81)::(fsL x β (Fs.new q)++([]++(fsL x' γ (Fs.new q)++[])))) (zV (by intro _ x;simp only[lbKz,laXz,lbEz,lbLz,laIz,laJz];omega))
end
end
theorem nG{p q:Prop}(k:q)(h:Hd q→p:=by
 intro q1k
 first|refine qD (id:=6) hM (Sub.take (Sub.take (Sub.take (Sub.take Sub.nil)))) [3,4,5] [(0,0),(1,0),(2,0),(3,1),(4,1),(5,1),(6,4),(7,4),(8,3)] ?_|fail
 exact q1k.out):p:=h ⟨k⟩
section
open Go.RowKit Go.Maps
section
variable {P:Program}{K:Act→World→Prop}{a:Act}{w w0:World}{ops:Array Oper}{l:List (Oper×Nat)}{o:Oper}{F:List Nat}{L Lr:List Ent}{ty:TypeId}
theorem Held.backM{A B M M':List Ent}{w':World}(hM:St w0 F w (A++(M++B)))(hs:Sub Lr A)(hw:zO M)(h':St w (ze M) w' M')(hh:Held w0 F Lr w):Held w0 F Lr w':=by
 have hnd:=hM.nd
 simp only[laMz,laSz] at hnd
 obtain⟨n1,⟨n2,n3,n4⟩,n5⟩:=hnd
 refine⟨hh.only.then h'.only (fun k hk=> ?_),fun z hz=> ?_⟩
 ·obtain⟨z,hz,rfl⟩:=laKz.1 hk
  exact hM.own z (by simp[hz]) (hw z hz)
 ·rw[h'.only.block z.1 (hh.has.lt hz) (fun hm=>n5 z.1 (laLz (hs.mem z hz)) z.1 (by rw[laAz];exact .inl hm) rfl)]
  exact hh.has z hz
theorem St.jr{o':Oper}{c:Nat}{f:FuncId}{ags:Array Operand}{ts:Array TypeId}{args:Array Value}(hx:o.op= .call {callee:= .value (.func f),args:=ags,argTypes:=ts})(hx':o'.op= .alloc ty){A M B:List Ent}(hM:St w0 F w (A++(M++B)))(hg:o.guard=none)(hg':o'.guard=none)(hd: ∀ d,o.dst=some d→o'.dst≠some d)
  (hf:XS P f=true) (he:ags.map a.eval=args) (he': ∀ p,ags.map (a.put o'.dst p).eval=args) {z:Value} (hz:((P.info? ty).bind (·.zero))=some z) (hs:Sub Lr A) (hw:zO M) {R:Value→List Ent→Prop}
  (hC: ∀ W,St w0 F W (A++(M++B))→Calls P f args W fun e w'=> ∃ v M',R v M'∧e= .returned v∧zO M'∧St W (ze M) w' M')
  (h: ∀ w' b v M',R v M'→St w0 F w' ((b,true,.cells z.cells.toList ty)::(A++(M' ++B)))→zg P ops K (Held w0 F Lr) l ((a.put o.dst v).put o'.dst (.pointer (some ⟨b,0,none⟩))) w'):zg P ops K (Held w0 F Lr) ((o,4)::(o',c)::l) a w:=by
 have pK: ∀ M',Swap (A++(M++B)) M M' (A++(M' ++B)):=fun M'=> .past .here
 refine Xx hg hg' ?_ ?_
 ·unfold Oper.wp
  rw[xk w hx hf he,Oper.upon_enter]
  refine(hC w hM).mono fun e w' ⟨v,M',hR,h1,pL,hN⟩=> ?_
  subst h1
  refine⟨Held.backM hM hs hw hN, ?_⟩
  rw[ZQ _ hx' hz]
  exact⟨fun hh=>⟨hh.only.alloc _,hh.has.push _⟩,h _ _ v M' hR ((hM.backM (pK M') hw hN pL).push _ (by simp[Res.holds]))⟩
 ·unfold Oper.wp
  rw[ZQ w hx' hz]
  refine⟨fun hh=>⟨hh.only.alloc _,hh.has.push _⟩, ?_⟩
  have hp:=hM.push (r:= .cells z.cells.toList ty) (.cells z.cells ty) (by simp[Res.holds])
  rw[xk _ hx hf (he' _),Oper.upon_enter]
  refine(hC _ hp.forget).mono fun e w' ⟨v,M',hR,h1,pL,hN⟩=> ?_
  subst h1
  refine⟨Held.backM hp.forget hs hw hN, ?_⟩
  rw[←Act.put_comm _ _ _ hd]
  exact h _ _ v M' hR (hp.backM (.skip (pK M')) hw hN pL)
end
theorem Fc{α:Type}(a b c d e:α)(t f g h:List α):(a::b::c::d::e::(t++(f++(g++h)))).Perm ((e::g)++(a::b::c::d::(t++(f++h)))):=(zV (by intro _ x;simp only[lbKz,laXz,lbEz,lbLz,laIz,laJz];omega))
theorem Fe{α:Type}(a b c d e:α)(g r:List α):((e::g)++(a::b::c::d::r)).Perm (a::b::c::d::e::(g++r)):=(zV (by intro _ x;simp only[lbKz,laXz,lbEz,lbLz,laIz,laJz];omega))
theorem Ff{α:Type}(q o e:α)(g t f h l:List α):(q::o::e::(g++(t++(f++(h++l))))).Perm (t++(e::(f++(g++(h++(l++[o,q])))))):=(zV (by intro _ x;simp only[lbKz,laXz,lbEz,lbLz,laIz,laJz];omega))
theorem z7(b:Nat)(x y:FsX)(s:Option (Nat×Nat))(zs:List aj)(z:aj)(β γ:Int→Nat×Nat)(D:ar):bp ⟨b,x,y,s,zs++[z]⟩ β γ D=au b x.f y.f s (zs.length+1)::(fsL x β D.now++(aS s (zs.map aj.val++[aj.val z])++(fsL y γ D.base++(zs.flatMap aj.ents++aj.ents z)))):=by
 unfold bp
 simp only[laNz,lbQz,laMz,ldDz,laWz,lbUz]
section
variable {N:Nat}{X:cI}{x y:FsX}{β γ:Int→Nat×Nat}{D:ar}{d:FsD}{w w' w0:World}{F:List Nat}{L L' M M':List Ent}{b f g n:Nat}{s:Option (Nat×Nat)}
def pM(w:World)(X:cI)(β γ:Int→Nat×Nat)(D:ar)(r:ResD×ar)(e:Ending)(w':World):Prop:=
 ∃ s X' β' γ',e= .returned (.agg #[.int .i64 r.1.err,.int .i64 r.1.n,.string r.1.data,slV s r.1.names.length])∧TxOK s r.1.names∧cI.b X'=X.b∧fO X' r.2∧St w (ze (bp X β γ D)) w' (txL s r.1.names++bp X' β' γ' r.2)
theorem Fg(k:Int):(([6,9,13]:List Int).take 3).contains k=decide (k=6∨k=9∨k=13):=by
 simp only[ldTz,List.take_zero,List.contains_cons,List.contains_nil,Bool.or_false]
 by_cases h1:k=6
 ·simp[h1]
 by_cases h2:k=9
 ·simp[h2]
 by_cases h3:k=13
 ·simp[h3]
 simp[h1,h2,h3]
theorem Fh(h:cw N X β γ D w)(hN:N≤999999980){o:Int}(ho:Fits o)(p:OpD)(hp:p.Ok):
  Calls Tryz.prog 34 #[.pointer (some ⟨X.b,0,none⟩),.int .i64 o,.agg p.cells.toArray] w (pM w X β γ D (Ol.do_ D o p)):=by
 have hM:=h.at_.st
 unfold pM
 obtain⟨F,hF⟩: ∃ F,ze (bp X β γ D)=F:=⟨_,rfl⟩
 rw[hF] at hM ⊢
 have F0:0∉F:=hF▸h.zero
 clear hF
 have HI:=qh h.inv
 have HX:=qh h.mx
 have HK:=qh h.ok
 have HP:=qh hp
 by_cases hk:p.kind=14
 ·have e1:Ol.do_ D o p=(Fs.errR 0,Ol.sync D):=if_pos hk
  rw[e1]
  obtain⟨pk,pp,pd,ph,pa,pn,px,py,pb⟩:=p
  simp only[OpD.cells] at hk ⊢
  subst hk
  clear h hp e1
  unfold bp at hM
  unfold au at hM
  go_enter Tryz.func34,Tryz.ntmps34
  (repeat(first|(refine qW ?_;clear hM;intros;rename_i hM)|(first|((refine qMk ?_);clear hM;intro w bk hM)|((refine qAA hM ?_);clear hM;intro w bk gU hM))))
  (refine qKx ?_;intro R hR)
  refine(ye (hM.holds (au X.b X.now.f X.sure.f X.s X.zs.length) qm)).mono ?_
  (refine qgs ?_;clear hR R)
  (repeat(first|(refine qW ?_;clear hM;intros;rename_i hM)|(first|((refine qMk ?_);clear hM;intro w bk hM)|((refine qAA hM ?_);clear hM;intro w bk gU hM))))
  (refine qKx ?_;intro R hR)
  have hM':St _ F w (_::_::_::((au X.b X.now.f X.sure.f X.s X.zs.length::fsL X.now β D.now)++(aS X.s (X.zs.map aj.val)++(fsL X.sure γ D.base++X.zs.flatMap aj.ents)))):=hM
  refine(y_ (hM.fs (x:=X.now) (β:=β) (d:=D.now) qpt HI.out.now.inv HX.out F0) (by omega) (hM'.part (.skip (.skip (.skip .here))))).mono ?_
  rintro e w' ⟨rfl,x',γ',hN2⟩
  replace hM:=hM'.backM (.skip (.skip (.skip .one))) (oF _ _) hN2 (fun y hy=>by
   rcases laBz.1 hy with rfl|hy
   ·rfl
   ·exact zr _ _ _ y hy)
  clear hM'
  clear hN2
  refine hR.out _ _ (fun _=>⟨hM.only,nofun⟩) ?_;clear hR R
  unfold au at hM
  (refine qq ?_)
  (repeat(first|(refine qW ?_;clear hM;intros;rename_i hM)|(first|((refine qMk ?_);clear hM;intro w bk hM)|((refine qAA hM ?_);clear hM;intro w bk gU hM))))
  (refine qf ?_)
  have hS:St _ F _ ((au X.b X.now.f x'.f none 0::fsL x' γ' D.now)++fsL X.now β D.now):=hM.subM ((((List.Sublist.append_left (lbAz _ _) _).cons _).cons _).cons _)
  refine⟨none,⟨X.b,X.now,x',none,[]⟩,β,γ',rfl,⟨rfl,rfl⟩,rfl,⟨rfl,⟨rfl,rfl⟩⟩, ?_⟩
  exact hS.perm (L':=au X.b X.now.f x'.f none 0::(fsL X.now β D.now++([]++(fsL x' γ' D.now++[])))) (zV (by intro _ x;simp only[lbKz,laXz,lbEz,lbLz,laIz,laJz];omega))
 ·have e1:Ol.do_ D o p=((Fs.do_ D.now o p).1,Ol.aO D o p):=if_neg hk
  rw[e1]
  have C:=qh (fun (W:World) (β':Int→Nat×Nat) (hA:FsAt N X.now β' D.now W)=>zcJ hA (by omega) ho p hp)
  have HD:=qh (show Ol.aO D o p=⟨(Fs.do_ D.now o p).2,D.base,if Ol.eo (Fs.do_ D.now o p).1 p then D.log++[(o,some p)] else D.log⟩ from rfl)
  obtain⟨G,hG⟩: ∃ G,Fs.do_ D.now o p=G:=⟨_,rfl⟩
  rw[hG] at C HD ⊢
  generalize Ol.aO D o p=DN at*
  obtain⟨⟨er,n,da,ns⟩,d'⟩:=G
  have HO:=qh ho
  have hq:(p.kind==14)=false:=qne.2 hk
  obtain⟨p',hp'⟩: ∃ p',p=p':=⟨_,rfl⟩
  obtain⟨pk,pp,pd,ph,pa,pn,px,py,pb⟩:=p
  simp only[OpD.cells] at C hq ⊢
  clear h hp e1 hk hG ho
  unfold bp at hM
  unfold au at hM
  go_enter Tryz.func34,Tryz.ntmps34
  try(refine qW ?_;clear hM;intros;rename_i hM)
  (first|((refine qMk ?_);clear hM;intro wx ob hM)|((refine qAA hM ?_);clear hM;intro wx ob I7 hM))
  try(refine qW ?_;clear hM;intros;rename_i hM)
  (first|((refine qMk ?_);clear hM;intro wy qb hM)|((refine qAA hM ?_);clear hM;intro wy qb I8 hM))
  try(refine qW ?_;clear hM;intros;rename_i hM)
  (first|((refine qMk ?_);clear hM;intro wz rb hM)|((refine qAA hM ?_);clear hM;intro wz rb I9 hM))
  (repeat(first|(refine qW0 ?_;clear hM;intros;rename_i hM)|(first|((refine qMk ?_);clear hM;intro w bk hM)|((refine qAA hM ?_);clear hM;intro w bk gU hM))|((refine nG ?_);clear hM;intro w hM Kr hKr)))
  (refine qKx ?_;intro R hR)
  refine(ye (hM.holds (au X.b X.now.f X.sure.f X.s X.zs.length) qm)).mono ?_
  (refine qgs ?_;clear hR R)
  (repeat(first|(refine qW0 ?_;clear hM;intros;rename_i hM)|(first|((refine qMk ?_);clear hM;intro w bk hM)|((refine qAA hM ?_);clear hM;intro w bk gU hM))|((refine nG ?_);clear hM;intro w hM Kr hKr)))
  refine St.jr (A:=[_,_,_,_]) (M:=fsL X.now β D.now) (R:=fun v M'=> ∃ s β',v= .agg #[.int .i64 er,.int .i64 n,.string da,slV s ns.length]∧TxOK s ns∧M'=txL s ns++fsL X.now β' d') rfl rfl hM rfl rfl (fun d h=>by cases h;decide) (by kernel_rfl) (by simp only[Act.put,qSa,qSz,qSs,lbOz,laDz,lbBz,Act.eval,zR,qGz,qGs]<;> rfl) (fun p=>(by simp only[Act.put,qSa,qSz,qSs,lbOz,laDz,lbBz,Act.eval,zR,qGz,qGs]<;> rfl)) rfl (Sub.all _) (zr _ _ _) (fun W hW=> ?_) ?_
  ·refine(C.out W β (hW.fs (.past .here) HI.out.now.inv HX.out F0)).mono ?_
   rintro e w' ⟨s,β',rfl,hs,hN2⟩
   exact⟨_,_,⟨s,β',rfl,hs,rfl⟩,rfl,fun y hy=>(laAz.1 hy).elim (zL _ _ y) (zr _ _ _ y),hN2⟩
  clear hM
  rintro w bk v M' ⟨s,β',rfl,hs,rfl⟩ hM
  obtain⟨sa,sc,hsv,-⟩:=zf hs
  rw[hsv]
  have HS:=qh hs
  have HSV:=qh hsv
  have tu:=qh hp'
  clear hs C hsv hp'
  simp only[laIz,laJz,lcAz] at hM
  generalize bk=ab at*
  by_cases h0:er=0
  ·have q0:(er==0)=true:=by rw[h0];rfl
   (refine qq ?_)
   (repeat(first|(refine qW0 ?_;clear hM;intros;rename_i hM)|(first|((refine qMk ?_);clear hM;intro w bk hM)|((refine qAA hM ?_);clear hM;intro w bk gU hM))|((refine nG ?_);clear hM;intro w hM Kr hKr)))
   (refine qKx ?_;intro R hR)
   have C3:=Tryz.slices_Contains_int bk 0 3 3 [6,9,13] pk w (by decide) (by decide) (fun j hj=>Res.cell (hM.holds _ (.head _)) (by
    have:j=0∨j=1∨j=2:=by simp only[laPz,lcGz] at hj;omega
    rcases this with rfl|rfl|rfl<;> rfl))
   rw[Fg] at C3
   refine C3.mono ?_
   rintro e w' ⟨rfl,rfl⟩;refine hR.out _ _ (fun h=>h) ?_;clear hR R C3
   replace hM:=hM.forget
   by_cases h1:pk=6∨pk=9∨pk=13
   ·rw[decide_eq_true h1]
    (refine qq ?_)
    (repeat(first|(refine qW0 ?_;clear hM;intros;rename_i hM)|(first|((refine qMk ?_);clear hM;intro w bk hM)|((refine qAA hM ?_);clear hM;intro w bk gU hM))|((refine nG ?_);clear hM;intro w hM Kr hKr)))
    (refine qf ?_)
    have e2:DN=⟨d',D.base,D.log⟩:=by rw[HD.out];show ar.mk d' D.base _=_;rw[if_neg (fun h=>by
     obtain⟨-,g1,g2,g3⟩:=h
     have I_:pk≠6:=g1
     have Ja:pk≠9:=g2
     have Jb:pk≠13:=g3
     omega)]
    rw[e2]
    have hS:St _ F _ (au X.b X.now.f X.sure.f X.s X.zs.length::(txL s ns++(fsL X.now β' d' ++(aS X.s (X.zs.map aj.val)++(fsL X.sure γ D.base++X.zs.flatMap aj.ents))))):=hM.forget.forget.forget.forget
    refine⟨s,X,β',γ,by rw[HSV.out];rfl,HS.out,rfl,⟨HK.out.log,HK.out.sl⟩, ?_⟩
    exact hS.perm (L':=txL s ns++(au X.b X.now.f X.sure.f X.s X.zs.length::(fsL X.now β' d' ++(aS X.s (X.zs.map aj.val)++(fsL X.sure γ D.base++X.zs.flatMap aj.ents))))) (zV (by intro _ x;simp only[lbKz,laXz,lbEz,lbLz,laIz,laJz];omega))
   ·rw[decide_eq_false h1]
    (refine qq ?_)
    (repeat(first|(refine qW0 ?_;clear hM;intros;rename_i hM)|(first|((refine qMk ?_);clear hM;intro w bk hM)|((refine qAA hM ?_);clear hM;intro w bk gU hM))|((refine nG ?_);clear hM;intro w hM Kr hKr)))
    (refine qKx ?_;intro R hR)
    have hS:St _ F _ (_::_::_::_::au X.b X.now.f X.sure.f X.s X.zs.length::(txL s ns++(fsL X.now β' d' ++(aS X.s (X.zs.map aj.val)++(fsL X.sure γ D.base++X.zs.flatMap aj.ents))))):=hM
    clear hM
    replace hS:=hS.perm (Fc _ _ _ _ _ _ _ _ _)
    have nc:X.zs.length≤1000000000:=by
     have g1:=congrArg List.length HK.out.log
     rw[lbMz] at g1
     obtain⟨M0,-,g2⟩:=HI.out.base
     omega
    refine(z6 HK.out.sl nc (hS.part .here)).mono ?_
    rintro e w' ⟨rfl,s',hk',hN2⟩
    have hM:=(hS.backM .here (fun y hy=>by
     rcases laBz.1 hy with rfl|hy
     ·rfl
     ·exact zo _ _ _ _ y hy) hN2 (fun y hy=>by
     rcases laBz.1 hy with rfl|hy
     ·rfl
     ·exact zo _ _ _ _ y hy)).perm (Fe _ _ _ _ _ _ _)
    refine hR.out _ _ (fun _=>⟨hM.only,nofun⟩) ?_;clear hR R hS hN2
    have HK':=qh hk'
    clear hk'
    (refine qq ?_)
    (repeat(first|(refine qW0 ?_;clear hM;intros;rename_i hM)|(first|((refine qMk ?_);clear hM;intro w bk hM)|((refine qAA hM ?_);clear hM;intro w bk gU hM))|((refine nG ?_);clear hM;intro w hM Kr hKr)))
    (refine qf ?_)
    have e2:DN=⟨d',D.base,D.log++[(o,some ⟨pk,pp,pd,ph,pa,pn,px,py,pb⟩)]⟩:=by rw[HD.out];show ar.mk d' D.base _=_;rw[if_pos ⟨h0,fun h=>h1 (.inl h),fun h=>h1 (.inr (.inl h)),fun h=>h1 (.inr (.inr h))⟩]
    rw[e2]
    refine⟨s,⟨X.b,X.now,X.sure,s',X.zs++[((o,some ⟨pk,pp,pd,ph,pa,pn,px,py,pb⟩),(ob,qb))]⟩,β',γ,by rw[HSV.out];rfl,HS.out,rfl,⟨?_, ?_⟩, ?_⟩
    ·show List.map (fun z:aj=>z.1) (X.zs++[_])=D.log++[_]
     rw[laMz,HK.out.log]
     rfl
    ·show SlOK s' (X.zs++[_]).length ((X.zs++[_]).map aj.val) 1
     rw[laNz,laMz]
     exact HK'.out
    ·rw[z7]
     exact hM.forget.forget.perm (Ff _ _ _ _ _ _ _ _)
  ·have q0:(er==0)=false:=qne.2 h0
   (refine qq ?_)
   (repeat(first|(refine qW0 ?_;clear hM;intros;rename_i hM)|(first|((refine qMk ?_);clear hM;intro w bk hM)|((refine qAA hM ?_);clear hM;intro w bk gU hM))|((refine nG ?_);clear hM;intro w hM Kr hKr)))
   (refine qf ?_)
   have e2:DN=⟨d',D.base,D.log⟩:=by rw[HD.out];show ar.mk d' D.base _=_;rw[if_neg (fun h=>h0 h.1)]
   rw[e2]
   have hS:St _ F _ (au X.b X.now.f X.sure.f X.s X.zs.length::(txL s ns++(fsL X.now β' d' ++(aS X.s (X.zs.map aj.val)++(fsL X.sure γ D.base++X.zs.flatMap aj.ents))))):=hM.forget.forget.forget.forget
   refine⟨s,X,β',γ,by rw[HSV.out];rfl,HS.out,rfl,⟨HK.out.log,HK.out.sl⟩, ?_⟩
   exact hS.perm (L':=txL s ns++(au X.b X.now.f X.sure.f X.s X.zs.length::(fsL X.now β' d' ++(aS X.s (X.zs.map aj.val)++(fsL X.sure γ D.base++X.zs.flatMap aj.ents))))) (zV (by intro _ x;simp only[lbKz,laXz,lbEz,lbLz,laIz,laJz];omega))
end
end
section
open Go.RowKit Go.Maps
theorem Fi{α:Type}(a e:α)(t f g h:List α):(a::e::(t++(f++(g++h)))).Perm ((e::g)++(a::(t++(f++h)))):=(zV (by intro _ x;simp only[lbKz,laXz,lbEz,lbLz,laIz,laJz];omega))
theorem Fj{α:Type}(o e:α)(g t f h l:List α):((e::g)++(o::(t++(f++(h++l))))).Perm ((e::(f++(g++(h++(l++[o])))))++t):=(zV (by intro _ x;simp only[lbKz,laXz,lbEz,lbLz,laIz,laJz];omega))
section
variable {N:Nat}{X:cI}{x y:FsX}{β γ:Int→Nat×Nat}{D:ar}{d:FsD}{w w' w0:World}{F:List Nat}{L L' M M':List Ent}{b f g n:Nat}{s:Option (Nat×Nat)}
theorem Fk{xs:List Int}(hM:St w0 F w (slL s (xs.map (Value.int .i64)) 3 1++L))(hk:SlOK s xs.length (xs.map (Value.int .i64)) 1)(x:Int):Calls Tryz.prog 81 #[slV s xs.length,.int .i64 x] w fun e w'=>e= .returned (.bool (xs.contains x))∧w'=w:=by
 rcases s with _|⟨g,cap⟩
 ·have h0:xs=[]:=lcBz hk.2
  subst h0
  exact Tryz.slices_Contains_int_empty none 0 x w
 ·have:=Tryz.slices_Contains_int g 0 xs.length cap xs x w (Nat.le_refl _) (by have:=hk.2.1;have:=hk.2.2;rw[zj] at this;omega) (fun j hj=>by
   refine Res.cell (hM.holds (g,true,.pre (xs.map (Value.int .i64)) 3 (cap*1)) (by simp[slL])) ?_
   show(xs.map (Value.int .i64))[0+j]? =_
   rw[Nat.zero_add,lbCz,laRz hj,lbDz,laRz hj]
   rfl)
  rw[lbSz] at this
  exact this
theorem Fl(h:cw N X β γ D w)(hN:N≤999999980){o:Int}(ho:Fits o):
  Calls Tryz.prog 44 #[.pointer (some ⟨X.b,0,none⟩),.int .i64 o] w fun e w'=>e= .returned (.tuple #[])∧y8 w X β γ D w' (Ol.exit D o):=by
 have hM:=h.at_.st
 unfold y8
 obtain⟨F,hF⟩: ∃ F,ze (bp X β γ D)=F:=⟨_,rfl⟩
 rw[hF] at hM ⊢
 have F0:0∉F:=hF▸h.zero
 clear hF
 have HI:=qh h.inv
 have HX:=qh h.mx
 have HK:=qh h.ok
 have HO:=qh ho
 clear h ho
 generalize z8:Ol.exit D o=DN
 have HD:=qh z8
 clear z8
 have oH:(Fs.af D.now).length≤1000000000:=by
  have:=HI.out.now.inv.len
  unfold Fs.af
  rw[lbMz]
  omega
 unfold bp at hM
 unfold au at hM
 go_enter Tryz.func44,Tryz.ntmps44
 (repeat(first|(refine qW ?_;intros;rename_i hM)|(refine qMk ?_;clear hM;intro w bk hM)))
 generalize bk=ob at*
 (refine qKx ?_;intro R hR)
 refine(ye (hM.holds (au X.b X.now.f X.sure.f X.s X.zs.length) qm)).mono ?_
 (refine qgs ?_;clear hR R)
 (repeat(first|(refine qW ?_;intros;rename_i hM)|(refine qMk ?_;clear hM;intro w bk hM)))
 (refine qKx ?_;intro R hR)
 refine(vR (hM.fs (x:=X.now) (β:=β) (d:=D.now) qpt HI.out.now.inv HX.out F0) (by omega)).mono ?_
 rintro e w' ⟨s1,rfl,hk1,hN2⟩
 replace hM:=hM.madeM hN2 (zo _ _ _ _)
 refine hR.out _ _ (fun h=>h.below hN2.to_below) ?_;clear hR R hN2
 (refine qq ?_)
 (repeat(first|(refine qW ?_;intros;rename_i hM)|(refine qMk ?_;clear hM;intro w bk hM)))
 (refine qKx ?_;intro R hR)
 refine(Fk hM hk1 o).mono ?_
 rintro e w' ⟨rfl,rfl⟩;refine hR.out _ _ (fun h=>h) ?_;clear hR R hk1
 replace hM:St _ F _ ((ob,true,.cells [.int .i64 o] 3)::(X.b,true,.cells [.pointer (some ⟨X.now.f,0,none⟩),.pointer (some ⟨X.sure.f,0,none⟩),slV X.s X.zs.length] 81)::(fsL X.now β D.now++(aS X.s (X.zs.map aj.val)++(fsL X.sure γ D.base++X.zs.flatMap aj.ents)))):=hM.subM (laFz _ _)
 by_cases ho:o∈Fs.af D.now
 ·rw[List.contains_iff_mem.2 ho]
  (refine qq ?_)
  (repeat(first|(refine qW ?_;intros;rename_i hM)|(refine qMk ?_;clear hM;intro w bk hM)))
  (refine qK3 (fun R hR=> ?_))
  refine(zaW (hM.fs (x:=X.now) (β:=β) (d:=D.now) qpt HI.out.now.inv HX.out F0) hN HO.out).mono ?_
  rintro e w' ⟨rfl,⟨β',hN2⟩,-⟩
  replace hM:=hM.backM (M:=fsL X.now β D.now) qsw (zr _ _ _) hN2 (zr _ _ _)
  refine hR.out _ _ ?_;clear hR R hN2
  (refine qq ?_)
  (repeat(first|(refine qW ?_;intros;rename_i hM)|(refine qMk ?_;clear hM;intro w bk hM)))
  (refine qKx ?_;intro R hR)
  have hS:St _ F _ (_::au X.b X.now.f X.sure.f X.s X.zs.length::([]++(fsL X.now β' (Fs.exit D.now o)++(aS X.s (X.zs.map aj.val)++(fsL X.sure γ D.base++X.zs.flatMap aj.ents))))):=hM
  clear hM
  replace hS:=hS.perm (Fi _ _ _ _ _ _)
  have nc:X.zs.length≤1000000000:=by
   have g1:=congrArg List.length HK.out.log
   rw[lbMz] at g1
   obtain⟨M0,-,g2⟩:=HI.out.base
   omega
  refine(z6 HK.out.sl nc (hS.part .here)).mono ?_
  rintro e w' ⟨rfl,s',hk',hN2⟩
  have hM:=(hS.backM .here (fun y hy=>by
   rcases laBz.1 hy with rfl|hy
   ·rfl
   ·exact zo _ _ _ _ y hy) hN2 (fun y hy=>by
   rcases laBz.1 hy with rfl|hy
   ·rfl
   ·exact zo _ _ _ _ y hy))
  refine qho ?_;clear hR R hS hN2
  have HK':=qh hk'
  clear hk'
  (refine qq ?_)
  (repeat(first|(refine qW ?_;intros;rename_i hM)|(refine qMk ?_;clear hM;intro w bk hM)))
  (refine qf ?_)
  have e2:DN=⟨Fs.exit D.now o,D.base,D.log++[(o,none)]⟩:=by rw[←HD.out];exact if_pos ho
  rw[e2]
  refine⟨rfl,⟨X.b,X.now,X.sure,s',X.zs++[((o,none),(ob,ob))]⟩,β',γ,rfl,⟨?_, ?_⟩, ?_⟩
  ·show List.map (fun z:aj=>z.1) (X.zs++[_])=D.log++[_]
   rw[laMz,HK.out.log]
   rfl
  ·show SlOK s' (X.zs++[_]).length ((X.zs++[_]).map aj.val) 1
   rw[laNz,laMz]
   exact HK'.out
  ·rw[z7]
   exact(hM.perm (Fj _ _ _ [] _ _ _)).front
 ·have hc:(Fs.af D.now).contains o=false:=by
   cases hq:(Fs.af D.now).contains o with
   |false=>rfl
   |true=>exact absurd (List.contains_iff_mem.1 hq) ho
  rw[hc]
  have e2:DN=D:=by rw[←HD.out];exact if_neg ho
  subst e2
  (refine qq ?_)
  (repeat(first|(refine qW ?_;intros;rename_i hM)|(refine qMk ?_;clear hM;intro w bk hM)))
  (refine qf ?_)
  exact⟨rfl,X,β,γ,rfl,HK.out,hM.forget⟩
theorem Fm{α:Type}(n:α)(a b r:List α):(n::(a++(b++r))).Perm ((n::(b++a))++r):=(zV (by intro _ x;simp only[lbKz,laXz,lbEz,lbLz,laIz,laJz];omega))
theorem Fo{vs:List Value}(hk:SlOK s n vs 1)(h1:vs.all (·.oneCell')=true)(hn:n≤1000000000)(hA:At (aS s vs) w):Calls Tryz.prog 77 #[slV s n] w fun e w'=> ∃ s',e= .returned (slV s' n)∧SlOK s' n vs 1∧St w [] w' (aS s' vs):=by
 have hM:=hA.ro
 rcases s with _|⟨g,cap⟩
 ·obtain⟨hl,rfl⟩:=hk
  have hv:vs=[]:=lcBz (by omega)
  subst hv
  clear hM
  have hM:=St.start w []
  simp only[slV]
  go_enter Tryz.func77,Tryz.ntmps77
  (repeat(first|(refine qW ?_;intros;rename_i hM)|(refine qMk ?_;clear hM;intro w bk hM)))
  refine St.pure (v:= .bool true) rfl rfl rfl (fun w=> ?_) ?_
  ·go_simp
   rw[Lib.run_eql_slice_nil (h:=Tryz.underlying79)]
   rfl
  (refine qq ?_)
  (repeat(first|(refine qW ?_;intros;rename_i hM)|(refine qMk ?_;clear hM;intro w bk hM)))
  (refine qf ?_)
  exact⟨none,rfl,⟨rfl,rfl⟩,hM⟩
 ·have HK:=qh hk
  clear hk
  simp only[slL,laDz,lbBz,zx] at hM
  simp only[slV]
  go_enter Tryz.func77,Tryz.ntmps77
  (repeat(first|(refine qW ?_;intros;rename_i hM)|(refine qMk ?_;clear hM;intro w bk hM)))
  refine St.pure (v:= .bool false) rfl rfl rfl (fun w=> ?_) ?_
  ·go_simp
   rw[Lib.run_eql_slice_nil (h:=Tryz.underlying79)]
   rfl
  (refine qq ?_)
  (repeat(first|(refine qW ?_;intros;rename_i hM)|(refine qMk ?_;clear hM;intro w bk hM)))
  replace hM:=hM.weaken (r':= .pre [] 138 (0*1)) (L':=slL (some (bk,0)) [] 138 1++[(g,false,Res.pre vs 138 (cap*1))]) Upd.head (Res.toPre rfl)
  have hlen:=HK.out.1
  refine St.append (s:=some (bk,0)) (n:=0) (xs:=[]) (m:=n) (news:=vs) rfl hM rfl rfl rfl rfl rfl (by kernel_rfl) qsf ⟨rfl,Nat.le_refl _,Nat.zero_le _⟩ hlen (hM.news (b:=g) (ow:=false) (r:= .pre vs 138 (cap*1)) (.tail _ (.head _))) h1 (by rw[zj];omega) (by omega) (fun h=>by cases h) ?_
  clear hM;intro w s' hM hk' _
  rw[laJz] at hM hk'
  rw[Nat.zero_add] at hk' ⊢
  (refine qq ?_)
  (repeat(first|(refine qW ?_;intros;rename_i hM)|(refine qMk ?_;clear hM;intro w bk hM)))
  (refine qf ?_)
  exact⟨s',rfl,hk',hM.front⟩
theorem Fp{vs:List Value}(hk:SlOK s n vs 1)(h1:vs.all (·.oneCell')=true)(hn:n≤1000000000)(hN:N≤1000000000)(h:(au b x.f g s n).2.2.holds w.heap[b]?)(hA:FsAt N x β d w)(hL:At (aS s vs) w):
  Calls Tryz.prog 27 #[.pointer (some ⟨b,0,none⟩)] w fun e w'=> ∃ c x' γ s',e= .returned (.pointer (some ⟨c,0,none⟩))∧SlOK s' n vs 1∧St w [] w' (au c (FsX.f x') g s' n::(fsL x' γ d++aS s' vs)):=by
 have hM:=St.one h
 have HW:=qh h
 unfold au at hM
 obtain⟨va,vc,hv,-⟩:=zf hk
 rw[hv] at hM
 go_enter Tryz.func27,Tryz.ntmps27
 (repeat(first|(refine qW ?_;intros;rename_i hM)|(refine qMk ?_;clear hM;intro w bk hM)))
 (refine qKx ?_;intro R hR)
 refine(ye (hM.only.holds HW.out)).mono ?_
 (refine qgs ?_;clear hR R)
 (repeat(first|(refine qW ?_;intros;rename_i hM)|(refine qMk ?_;clear hM;intro w bk hM)))
 (refine qKx ?_;intro R hR)
 refine(YR (hA.below hM.to_below) hN).mono ?_
 rintro e w' ⟨x',γ,rfl,hN2⟩
 replace hM:=hM.madeM hN2 (zr _ _ _)
 refine hR.out _ _ (fun h=>h.below hN2.to_below) ?_;clear hR R hN2;(refine qq ?_)
 (repeat(first|(refine qW ?_;intros;rename_i hM)|(refine qMk ?_;clear hM;intro w bk hM)))
 (refine qKx ?_;intro R hR)
 rw[←hv]
 refine(Fo hk h1 hn (hL.below hM.to_below)).mono ?_
 rintro e w' ⟨s',rfl,hk',hN2⟩
 replace hM:=hM.madeM hN2 (zo _ _ _ _)
 refine hR.out _ _ (fun h=>h.below hN2.to_below) ?_;clear hR R hN2
 obtain⟨Jc,Jd,iQ,-⟩:=zf hk'
 rw[iQ]
 (refine qq ?_)
 (repeat(first|(refine qW ?_;intros;rename_i hM)|(refine qMk ?_;clear hM;intro w bk hM)))
 (refine qf ?_)
 rw[←iQ] at hM
 refine⟨bk,x',γ,s',rfl,hk', ?_⟩
 exact St.front (M:=au bk x'.f g s' n::(fsL x' γ d++aS s' vs)) (hM.perm (Fm _ _ _ _))
end
end
section
open Go.RowKit Go.Maps
theorem z_{w0 w:World}{F:List Nat}{L:List Ent}{g cap:Nat}{xs:List ByteArray}{ow:Bool}(hM:St w0 F w L)(hm:(g,ow,Res.pre (xs.map Value.string) 9 (cap*1))∈L): ∀ j,j<xs.length→w.cell? ⟨g,0+j,none⟩=some (.string (xs.getD j ByteArray.empty)):=fun j hj=>by
 refine Res.cell (hM.holds _ hm) ?_
 show(xs.map Value.string)[0+j]? =_
 rw[Nat.zero_add,lbCz,laRz hj,lbDz,laRz hj]
 rfl
theorem Aa(w:World)(q:Nat):Below w.heap.size w (w.drewN q):=⟨rfl,rfl,rfl,Nat.le_refl _,fun _ _=>rfl⟩
theorem Fq(p dir:ByteArray)(w:World)(hp:p.size≤1000000)(hd:dir.size≤1000000)(hm:Mx w):An 130 #[.string p,.string dir] w (.bool (Pt.under p dir)):=by
 have hM:=St.start w []
 have F0:0∉([]:List Nat):=nofun
 have HX:=qh hm
 have C1:=qh (fun (W:World) (h:Mx W)=>Xf p W hp h)
 have C2:=qh (fun (W:World) (h:Mx W)=>Xf dir W hd h)
 have l1:=Pt.parts_len p hp
 have l2:=Pt.parts_len dir hd
 unfold Pt.under
 generalize Pt.parts p=xs at*
 generalize Pt.parts dir=ys at*
 clear hp hd hm
 generalize hU:(decide (ys.length<xs.length)&&decide (xs.take ys.length=ys))=U
 have HU:=qh hU
 clear hU
 go_enter Tryz.func130,Tryz.ntmps130
 (refine qw ?_;intros;rename_i hM)
 (refine qKx ?_;intro R hR)
 refine(C1.out _ (hM.mx HX.out F0)).mono ?_
 rintro e w' ⟨s1,rfl,hk1,hN⟩
 replace hM:=hM.madeM hN (zL _ _)
 refine hR.out _ _ (fun h=>h.below hN.to_below) ?_;clear hR R hN
 obtain⟨a1,c1,gS,l8⟩:=zf hk1
 rw[gS]
 (refine qq ?_)
 (refine qw ?_;intros;rename_i hM)
 (refine qKx ?_;intro R hR)
 refine(C2.out _ (hM.mx HX.out F0)).mono ?_
 rintro e w' ⟨s2,rfl,hk2,hN⟩
 replace hM:=hM.madeM hN (zL _ _)
 refine hR.out _ _ (fun h=>h.below hN.to_below) ?_;clear hR R hN
 obtain⟨a2,c2,eh,l9⟩:=zf hk2
 rw[eh]
 (refine qq ?_)
 by_cases h1:ys.length<xs.length
 ·have k1:(ys.length:Int)<(xs.length:Int):=by omega
  have d1:decide (ys.length<xs.length)=true:=decide_eq_true h1
  cases s1 with
  |none=>exact absurd hk1.2 (by omega)
  |some gc=>
  obtain⟨g,cap⟩:=gc
  obtain⟨rfl,rfl⟩:=l8 g cap rfl
  have k2:(ys.length:Int)≤(c1:Int):=by have:=hk1.2.1;omega
  have HL:=qh hk2
  have e:decide (xs.take ys.length=ys)=U:=by rw[←HU.out,d1,Bool.true_and]
  simp only[slL,laIz,laJz] at hM
  (refine qw ?_;intros;rename_i hM)
  (refine qKx ?_;intro R hR)
  by_cases h0:ys.length=0
  ·have e0:true=U:=by rw[←e,h0];simpa using (lcBz h0).symm
   subst e0
   rw[h0]
   refine(Tryz.slices_Equal_string_empty _ _ _ _ _ _ (by decide)).mono ?_
   (refine qgs ?_;clear hR R)
   exact qwf
  ·cases s2 with
   |none=>exact absurd HL.out.2 h0
   |some Fu=>
   obtain⟨g2,cap2⟩:=Fu
   obtain⟨rfl,rfl⟩:=l9 g2 cap2 rfl
   simp only[slL,laIz,laJz] at hM
   refine(Tryz.slices_Equal_string _ _ _ _ _ _ _ _ xs ys _ (by omega) (by omega) (by omega) (by omega) (z_ hM qm) (z_ hM qm)).mono ?_
   rintro e' w' ⟨rfl,q,rfl⟩
   refine hR.out _ _ (fun h=>h.below (Aa _ q)) ?_;clear hR R;replace hM:=hM.below (Aa _ q)
   rw[ldNz (Nat.le_refl ys.length),e]
   (refine qq ?_)
   exact qwf
 ·have k1:¬((ys.length:Int)<(xs.length:Int)):=by omega
  have d1:decide (ys.length<xs.length)=false:=decide_eq_false h1
  have e:false=U:=by rw[←HU.out,d1,Bool.false_and]
  subst e
  exact qwf
end
section
open Go.RowKit Go.Maps
def lj(xs ys:List ah)(k:Nat):Prop:=ys.length=xs.length∧ ∀ i,i<xs.length→ys[i]? =if i<k∨xs.length - 1 - k<i then xs[xs.length - 1 - i]? else xs[i]?
theorem Fv(xs:List ah):lj xs xs 0:=⟨rfl,fun i hi=>by rw[if_neg (by omega)]⟩
theorem Fw{xs ys:List ah}{k:Nat}(h:lj xs ys k)(hk:xs.length≤2*k+1):ys=xs.reverse:=by
 obtain⟨h1,h2⟩:=h
 refine List.ext_getElem? fun i=> ?_
 by_cases hi:i<xs.length
 ·rw[h2 i hi,List.getElem?_reverse hi]
  split
  ·rfl
  ·rw[show xs.length - 1 - i=i by omega]
 ·rw[lcTz (by omega),lcTz (by rw[List.length_reverse];omega)]
theorem Fx{xs ys:List ah}{k m:Nat}{a b:ah}(h:lj xs ys k)(hm:m=xs.length - 1 - k)(nH:k<m)(ha:ys[k]? =some a)(hb:ys[m]? =some b):lj xs ((ys.set k b).set m a) (k+1):=by
 obtain⟨h1,h2⟩:=h
 refine⟨by simp[h1],fun i hi=> ?_⟩
 have ga:=h2 k (by omega)
 rw[if_neg (by omega),ha] at ga
 have gb:=h2 m (by omega)
 rw[if_neg (by omega),hb] at gb
 by_cases e1:i=m
 ·subst e1
  rw[List.getElem?_set_self (by simp;omega),if_pos (by omega),ga]
  exact congrArg (fun z=>xs[z]?) (by omega)
 ·rw[ldHz (fun e=>e1 e.symm)]
  by_cases e2:i=k
  ·subst e2
   rw[List.getElem?_set_self (by omega),if_pos (by omega),gb]
   exact congrArg (fun z=>xs[z]?) (by omega)
  ·rw[ldHz (fun e=>e2 e.symm),h2 i hi]
   by_cases c:i<k∨xs.length - 1 - k<i
   ·rw[if_pos c,if_pos (by omega)]
   ·rw[if_neg c,if_neg (by omega)]
theorem pN{xs:List ah}{k:Nat}{f:ah}(h:xs[k]? =some f):((xs.flatMap ah.cells).drop (k*3)).take 3=[.string f.path,.bool f.dir,.string f.data]:=by
 induction xs generalizing k with
 |nil=>simp at h
 |cons p r ih=>
  cases k with
  |zero=>
   rw[lbPz] at h
   cases h
   rfl
  |succ k=>
   rw[lbFz] at h
   have:=ih h
   rw[show(k+1)*3=k*3+3 by omega]
   exact this
theorem Ab{xs:List ah}{k:Nat}(f:ah)(h:k<xs.length):over (xs.flatMap ah.cells) (k*3) [.string f.path,.bool f.dir,.string f.data]=(xs.set k f).flatMap ah.cells:=by
 induction xs generalizing k with
 |nil=>simp at h
 |cons p r ih=>
  cases k with
  |zero=>rfl
  |succ k=>
   rw[laPz] at h
   have:=ih (k:=k) (by omega)
   rw[show(k+1)*3=k*3+3 by omega,qSs]
   exact congrArg (fun z=>p.cells++z) this
section
variable {N:Nat}{X:cI}{x y:FsX}{β γ:Int→Nat×Nat}{D:ar}{d:FsD}{w w' w0:World}{F:List Nat}{L L' M M':List Ent}{b f g n:Nat}{s:Option (Nat×Nat)}
theorem yr: ∀ l:List ah,(l.flatMap ah.cells).length=l.length*3
 |[]=>rfl
 |p::r=>by rw[laOz,laNz,yr r,laPz];simp[ah.cells];omega
theorem Fy{xs ys:List ah}(h:YF s xs)(hl:ys.length=xs.length):YF s ys:=by
 refine⟨yr ys, ?_⟩
 rw[hl]
 exact h.2
theorem Fz{xs:List ah}(hk:YF s xs)(hl:xs.length≤1000000)(hA:At (Yy s xs) w0):Calls Tryz.prog 129 #[slV s xs.length] w0 fun e w'=>e= .returned (.tuple #[])∧St w0 (ze (Yy s xs)) w' (Yy s xs.reverse):=by
 have hM:=hA.st
 obtain⟨F,hF⟩: ∃ F,ze (Yy s xs)=F:=⟨_,rfl⟩
 rw[hF] at hM ⊢
 have HK:=qh hk
 clear hF hA hk
 rcases s with _|⟨g,cap⟩
 ·have h0:xs=[]:=lcBz HK.out.2
  subst h0
  simp only[slV]
  go_enter Tryz.func129,Tryz.ntmps129
  (refine qw ?_;intros;rename_i hM)
  refine wp_loop_rounds 1 ?_
  (refine Zq (fun K hK=> ?_))
  (refine qw ?_;intros;rename_i hM)
  (refine qf ?_)
  exact⟨rfl,hM⟩
 ·simp only[slV,Yy,slL] at hM ⊢
  by_cases hz:xs.length=0
  ·have h0:xs=[]:=lcBz hz
   subst h0
   simp only[lcGz]
   go_enter Tryz.func129,Tryz.ntmps129
   (refine qw ?_;intros;rename_i hM)
   refine wp_loop_rounds 1 ?_
   (refine Zq (fun K hK=> ?_))
   (refine qw ?_;intros;rename_i hM)
   (refine qf ?_)
   exact⟨rfl,hM⟩
  have iX:IntKind.i64.wrap ((xs.length:Int) - 1)=((xs.length - 1:Nat):Int):=by rw[Za _ (by omega)];omega
  go_enter Tryz.func129,Tryz.ntmps129
  (refine qw ?_;intros;rename_i hM)
  go_loopw [2,3] (fun i j wr=> ∃ (k m:Nat) (ys:List ah),i= .int .i64 k∧j= .int .i64 m∧m=xs.length - 1 - k∧k≤m+1∧lj xs ys k∧St w0 F wr [(g,true,.pre (ys.flatMap ah.cells) 112 (cap*3))]) (fun i _ _=>xs.length - (intOf i).toNat)
  case atStart=>exact⟨0,xs.length - 1,xs,rfl,by simp[iX],by omega,by omega,Fv xs,hM⟩
  case round=>
   clear hM
   obtain⟨k,m,ys,rfl,rfl,hm,nH,pO,hM⟩:=hrel
   have HV:=qh pO
   clear pO
   by_cases hlt:k<m
   ·have hyl:=HV.out.1
    obtain⟨a,ha⟩:=zK (xs:=ys) (k:=k) (by omega)
    obtain⟨b,hb⟩:=zK (xs:=ys) (k:=m) (by omega)
    have FA:=pN ha
    have FB:=pN hb
    have eU:=qh (Fx HV.out hm hlt ha hb)
    have oa:=Ab (xs:=ys) (k:=k) b (by omega)
    have ob:=Ab (xs:=ys.set k b) (k:=m) a (by rw[List.length_set];omega)
    have Ac:k*3+3≤(ys.flatMap ah.cells).length:=by rw[yr];omega
    have FC:m*3+3≤(ys.flatMap ah.cells).length:=by rw[yr];omega
    have FD:m*3+3≤((ys.set k b).flatMap ah.cells).length:=by rw[yr,List.length_set];omega
    have k1:(k:Int)<(m:Int):=by omega
    have b1:(k:Int)<(xs.length:Int):=by omega
    have b2:(m:Int)<(xs.length:Int):=by omega
    have HM:=qh hm
    clear hyl ha hb hm nH
    (refine qw ?_;intros;rename_i hM)
    refine St.loadRow1 rfl rfl rfl rfl qm (by exact FC) (by kernel_rfl) ?_
    simp only[Res.known]
    rw[FB]
    (refine qq ?_)
    (refine qw ?_;intros;rename_i hM)
    refine St.loadRow rfl hM rfl rfl rfl rfl qm (by exact Ac) (by kernel_rfl) ?_
    simp only[Res.known]
    rw[FA]
    (refine qq ?_)
    (refine qw ?_;intros;rename_i hM)
    refine St.storeRow (vs:= #[.string b.path,.bool b.dir,.string b.data]) rfl hM rfl rfl rfl rfl rfl Upd.head (by exact Ac) (Nat.le_of_ble_eq_true rfl) (by kernel_rfl) rfl (fun h=>by cases h) ?_
    clear hM;intro w hM
    simp only[Res.put,Res.known] at hM
    rw[oa] at hM
    (refine qq ?_)
    (refine qw ?_;intros;rename_i hM)
    refine St.storeRow (vs:= #[.string a.path,.bool a.dir,.string a.data]) rfl hM rfl rfl rfl rfl rfl Upd.head (by exact FD) (Nat.le_of_ble_eq_true rfl) (by kernel_rfl) rfl (fun h=>by cases h) ?_
    clear hM;intro w hM
    simp only[Res.put,Res.known] at hM
    rw[ob] at hM
    have FE:IntKind.i64.wrap ((m:Int) - 1)=((m - 1:Nat):Int):=by rw[Za _ (by omega)];omega
    (refine qq ?_)
    (refine qw ?_;intros;rename_i hM)
    (refine⟨?_,qio⟩;repeat(first|exact⟨⟨k+1,m - 1,_,rfl,rfl,by have:=HM.out;omega,by omega,eU.out,hM⟩,rfl⟩|apply Exists.intro))
   ·have k0:¬((k:Int)<(m:Int)):=by omega
    have e:=Fw HV.out (by omega)
    subst e
    clear hm nH hlt
    (refine qw ?_;intros;rename_i hM)
    (refine qf ?_)
    exact⟨rfl,hM⟩
theorem FF(hA:FsAt N x β d w)(hN:N≤999999990){o:Int}(ho:Fits o){p:OpD}(hp:p.Ok){ob qb:Nat}(h1:(Res.cells [.int .i64 o] 3).holds w.heap[ob]?)(h2:(Res.cells p.cells 34).holds w.heap[qb]?):
  Calls Tryz.prog 83 #[.pointer (some ⟨x.f,0,none⟩),.pointer (some ⟨ob,0,none⟩),.pointer (some ⟨qb,0,none⟩)] w fun e w'=>e= .returned (.tuple #[])∧ ∃ β',St w (ze (fsL x β d)) w' (fsL x β' (Fs.do_ d o p).2):=by
 have hM:=St.start w []
 have c1:w.cell? ⟨ob,0,none⟩=some (.int .i64 o):=Res.cell h1 rfl
 have c2:w.rangeAt qb 0 p.cells:=Res.range (q:=0) (n:=p.cells.length) h2 (by show 0+p.cells.length≤p.cells.length;omega)
 have C:=qh (zcJ hA hN ho p hp)
 generalize Fs.do_ d o p=G at*
 obtain⟨⟨er,n,da,ns⟩,d'⟩:=G
 clear h1 h2 hp ho
 obtain⟨pk,pp,pd,ph,pa,pn,px,py,pb⟩:=p
 simp only[OpD.cells] at C c2
 go_enter Tryz.func83,Tryz.ntmps83
 (refine qw ?_;intros;rename_i hM)
 (refine qK3 (fun R hR=> ?_))
 refine C.out.mono ?_
 rintro e w' ⟨s,β',rfl,hs,hN2⟩
 refine hR.out _ _ ?_;clear hR R hM C
 have hM:=hN2
 clear hN2
 (refine qq ?_)
 (refine qw ?_;intros;rename_i hM)
 (refine qf ?_)
 exact⟨rfl,β',hM.subM (laFz _ _)⟩
theorem FG(hA:FsAt N x β d w)(hN:N≤999999980){o:Int}(ho:Fits o){ob:Nat}(h1:(Res.cells [.int .i64 o] 3).holds w.heap[ob]?):
  Calls Tryz.prog 90 #[.pointer (some ⟨x.f,0,none⟩),.pointer (some ⟨ob,0,none⟩)] w fun e w'=>e= .returned (.tuple #[])∧ ∃ β',St w (ze (fsL x β d)) w' (fsL x β' (Fs.exit d o)):=by
 have hM:=St.start w []
 have c1:w.cell? ⟨ob,0,none⟩=some (.int .i64 o):=Res.cell h1 rfl
 have C:=qh (zaW hA hN ho)
 generalize Fs.exit d o=d' at*
 clear h1 ho
 go_enter Tryz.func90,Tryz.ntmps90
 (refine qw ?_;intros;rename_i hM)
 (refine qK3 (fun R hR=> ?_))
 refine C.out.mono ?_
 rintro e w' ⟨rfl,⟨β',hN2⟩,-⟩
 refine hR.out _ _ ?_;clear hR R hM C
 have hM:=hN2
 clear hN2
 (refine qq ?_)
 (refine qw ?_;intros;rename_i hM)
 (refine qf ?_)
 exact⟨rfl,β',hM⟩
end
end
section
open Go.RowKit Go.Maps
theorem FH(d n:ByteArray)(w:World)(hd:d.size≤4611686018427387904)(hn:n.size≤1000000):An 149 #[.string d,.string n] w (.string (Pt.join d n)):=by
 have hM:=St.start w []
 by_cases h1:d.data.toList=[]
 ·have q1:=Zn h1
  have e:Pt.join d n=d++n:=if_pos (.inl h1)
  have e2:d++n=n:=by refine Pt.ba_ext ?_;rw[ByteArray.data_append,Array.toList_append,h1];rfl
  rw[e,e2]
  clear h1 e e2
  go_enter Tryz.func149,Tryz.ntmps149
  exact qwf
 ·have q1:=Zt h1
  by_cases h2:n.data.toList=[]
  ·have q2:=Zn h2
   have e:Pt.join d n=d++n:=if_pos (.inr h2)
   have e2:d++n=d:=by refine Pt.ba_ext ?_;rw[ByteArray.data_append,Array.toList_append,h2,laYz]
   rw[e,e2]
   clear h1 h2 e e2
   go_enter Tryz.func149,Tryz.ntmps149
   exact qwf
  ·have q2:=Zt h2
   have e:Pt.join d n=d++Pt.slash++n:=if_neg (fun h=>h.elim h1 h2)
   rw[e]
   clear h1 h2 e
   go_enter Tryz.func149,Tryz.ntmps149
   exact qwf
section
variable {w w' w0 w1 w2:World}{X X':bQ}{t t':TabD}{zs zs':List NodV}{hs hs':List ae}{N:Nat}{F:List Nat}{L:List Ent}
theorem Ad: ∀ xs:List ah,(xs.flatMap ah.cells).all (·.oneCell')=true
 |[]=>rfl
 |x::r=>by
  rw[laOz,ldOz,Ad r]
  rfl
theorem St.nI{a b:Ent}{A B:List Ent}{c:Ent}(hM:St w0 F w (A++(a::b::c::B))):St w0 F w (c::B):=hM.subM ((((List.Sublist.refl _).cons _).cons _).trans (laFz _ _))
theorem FJ(h:av X t zs hs w0)(I:In.Inv N t)(hN:N≤900000){z:NodV}{id:Int}(cY:Zd zs id=some z){dir:ByteArray}(hd:dir.size≤1000000){deep:Nat}(Je:deep<40)(U:ByteArray×Int→List ah)(hB:(z.1.names.flatMap fun p=>fileOf t dir p::U p).length≤1000000)
  (IH: ∀ p∈z.1.names,∀ W,Below w0.heap.size w0 W→Calls Tryz.prog 89 #[.pointer (some ⟨X.f,0,none⟩),.int .i64 p.2,.string (Pt.join dir p.1),.int .i64 ((deep+1:Nat):Int)] W (yn (U p) W)):
  Calls Tryz.prog 89 #[.pointer (some ⟨X.f,0,none⟩),.int .i64 id,.string dir,.int .i64 ((deep:Nat):Int)] w0 (yn (z.1.names.flatMap fun p=>fileOf t dir p::U p) w0):=by
 have hM:=St.start w0 []
 have HND:=qh (fun (W:World) (hb:Below w0.heap.size w0 W) (id:Int)=>ti (h.below hb) id)
 have HN1:=qh (show An 148 #[.pointer (some ⟨X.f,0,none⟩),.int .i64 id] w0 (.agg z.cells.toArray) by have:=ti h id;rwa [cY] at this)
 have hzs:z∈zs:=laUz cY
 have HNM:=qh (fun (z:NodV) (hz:z∈zs)=>h.tbl.raw.nm (h.tbl.nl I hN) hz)
 have cN:=qh h.tbl
 have HI:=qh I
 have rJ:=qh IH
 have rK:=qh hB
 have HJ:=qh (fun (n:ByteArray) (W:World) (hn:n.size≤1000000)=>FH dir n W (by omega) hn)
 have hk:=h.names z hzs
 obtain⟨za,zc,hzv,tv⟩:=zf hk
 have pP:z.cells=[.int .i64 z.1.id,.bool z.1.dir,.int .i64 z.1.links,.int .i64 z.1.holds,.string z.1.data,.slice za z.1.names.length zc]:=NodV.open hzv
 rw[pP] at HN1
 have hnl:=(HNM.out z hzs).len
 have HE:=qh (HNM.out z hzs).has
 have oI:=qh hk
 obtain⟨⟨zi,zd,zl,zh,zb,zn⟩,zp⟩:=z
 have tw:=hzs
 simp only at*
 clear h I hN cY hB IH hzv hk pP
 go_enter Tryz.func89,Tryz.ntmps89
 (repeat(first|(refine qW ?_;intros;rename_i hM)|(refine qMk ?_;clear hM;intro w bk hM)))
 (refine qK3 (fun R hR=> ?_))
 refine HN1.out.mono ?_
 (refine qJ3 hR hM ?_;clear hR R hM;intro w' hM)
 (repeat(first|(refine qW ?_;intros;rename_i hM)|(refine qMk ?_;clear hM;intro w bk hM)))
 change St w0 [] _ (_::slL none (([]:List ah).flatMap ah.cells) 112 3) at hM
 go_loopw [9,11,12,13] (fun out i _ _ wr=> ∃ (k:Nat) (s:Option (Nat×Nat)) (ys:List ah),k≤zn.length∧i= .int .i64 k∧out=slV s ys.length∧Hid (ys=(zn.take k).flatMap fun p=>fileOf t dir p::U p)∧Hid (YF s ys)∧St w0 [] wr ((bk,true,Res.cells [.int .i64 zi,.bool zd,.int .i64 zl,.int .i64 zh,.string zb,.slice za zn.length zc] 124)::Yy s ys)) (fun _ i _ _ _=>zn.length - (intOf i).toNat)
 case atStart=>exact⟨0,none,[],by omega,rfl,rfl,qh rfl,qh ⟨rfl,rfl⟩,hM⟩
 case round=>
  clear hM
  obtain⟨k,s,ys,hk,rfl,rfl,HY,HK,hM⟩:=hrel
  obtain⟨ua,uc,hu,-⟩:=zf HK.out
  have HU:=qh hu
  have d1:((deep:Nat):Int)<40:=by omega
  by_cases hlt:k<zn.length
  ·obtain⟨p,hp⟩:=zK hlt
   obtain⟨nm,idv⟩:=p
   have hpm:=laQz hp
   have hzi:=cN.out.mem tw
   have oJ:=HI.out.short _ hzi _ hpm
   obtain⟨n2,hn2⟩:=HI.out.leads _ hzi _ hpm
   simp only at oJ hn2
   have gR:=cN.out.find idv
   rw[hn2] at gR
   obtain⟨gE,nJ,fZ⟩:=Option.map_eq_some_iff.1 gR.symm
   have pQ:gE∈zs:=laUz nJ
   have hat:In.at_ t idv=gE.1:=by rw[In.at_some hn2,fZ]
   have gN:gE.1.id=idv:=by rw[fZ];exact(In.find_some hn2).2
   obtain⟨ca,cc,hcv,-⟩:=zf (HNM.out gE pQ).ok
   have kH:=qh (show ∀ W,Below w0.heap.size w0 W→An 148 #[.pointer (some ⟨X.f,0,none⟩),.int .i64 idv] W (.agg #[.int .i64 idv,.bool gE.1.dir,.int .i64 gE.1.links,.int .i64 gE.1.holds,.string gE.1.data,.slice ca gE.1.names.length cc]) from fun W hb=>by
    have:=HND.out W hb idv
    rw[nJ] at this
    simp only at this
    rw[NodV.open hcv,gN] at this
    exact this)
   have hfile:fileOf t dir (nm,idv)=⟨Pt.join dir nm,gE.1.dir,gE.1.data⟩:=by unfold fileOf;rw[hat]
   have iE:(zn.take (k+1)).flatMap (fun p=>fileOf t dir p::U p)=(zn.take k).flatMap (fun p=>fileOf t dir p::U p)++(⟨Pt.join dir nm,gE.1.dir,gE.1.data⟩::U (nm,idv)):=by
    rw[lbJz,hp,Option.toList_some,laWz,lbUz,hfile]
   have jn:(ys++[⟨Pt.join dir nm,gE.1.dir,gE.1.data⟩])++U (nm,idv)=(zn.take (k+1)).flatMap (fun p=>fileOf t dir p::U p):=by
    rw[iE,HY.out]
    simp
   have hlen:ys.length+1+(U (nm,idv)).length≤1000000:=by
    have h1:=congrArg List.length jn
    have h2:((zn.take (k+1)).flatMap (fun p=>fileOf t dir p::U p)).length≤(zn.flatMap fun p=>fileOf t dir p::U p).length:=by
     conv=>rhs;rw[←lcVz (k+1) zn]
     rw[laWz,laNz]
     omega
    have h3:=rK.out
    rw[laNz,laNz,lbQz] at h1
    omega
   have pR:=qh (fun (W:World) (hb:Below w0.heap.size w0 W)=>rJ.out (nm,idv) hpm W hb)
   have FK:=qh (fun (W:World)=>HJ.out nm W (by omega))
   obtain⟨g1,cap1,rfl⟩: ∃ g1 cap1,zp=some (g1,cap1):=by
    rcases zp with _|⟨g1,cap1⟩
    ·exact absurd oI.out.2 (by omega)
    ·exact⟨g1,cap1,rfl⟩
   obtain⟨rfl,rfl⟩:=tv g1 cap1 rfl
   have r1:=zaZ HE.out hp
   have c0:w0.cell? ⟨g1,k*2,none⟩=some (.string nm):=r1 0 _ rfl
   have c1:w0.cell? ⟨g1,k*2+1,none⟩=some (.int .i64 idv):=r1 1 _ rfl
   have k1:(k:Int)<(zn.length:Int):=by omega
   have HY2:=qh jn
   simp only at pR
   generalize Pt.join dir nm=J at*
   generalize U (nm,idv)=UP at*
   generalize gE.1.names.length=cn at*
   generalize gE.1.dir=cd at*
   generalize gE.1.links=cl at*
   generalize gE.1.holds=ch at*
   generalize gE.1.data=ct at*
   clear hp hpm hzi oJ hn2 gR nJ fZ pQ hat gN hcv hfile iE jn hlt r1
   rw[hu]
   clear hu
   (repeat(first|(refine qW ?_;intros;rename_i hM)|(refine qMk ?_;clear hM;intro w bk hM)))
   (refine qCB (kH.out _ hM.to_below) hM ?_;clear hM;intro w' hM)
   (repeat(first|(refine qW ?_;intros;rename_i hM)|(refine qMk ?_;clear hM;intro w bk hM)))
   (refine qCB (FK.out _) hM ?_;clear hM;intro w' hM)
   (repeat(first|(refine qW ?_;intros;rename_i hM)|(refine qMk ?_;clear hM;intro w bk hM)))
   rw[←HU.out]
   refine St.append (s:=s) (n:=ys.length) (xs:=ys.flatMap ah.cells) rfl hM rfl rfl rfl rfl rfl (by kernel_rfl) qsf HK.out rfl (hM.news qm) rfl (by rw[zj];omega) (by omega) (fun h=>by cases h) ?_
   clear hM;intro w s2 hM hk2 _
   have e1:ys.flatMap ah.cells++[.string J,.bool cd,.string ct]=(ys++[(⟨J,cd,ct⟩:ah)]).flatMap ah.cells:=by rw[laWz,lbUz];rfl
   have e2:ys.length+1=(ys++[(⟨J,cd,ct⟩:ah)]).length:=by simp
   simp only[Res.known] at hM hk2
   rw[e1] at hM hk2
   rw[e2] at hk2 hlen ⊢
   have HK2:=qh hk2
   generalize ys++[(⟨J,cd,ct⟩:ah)]=kB at*
   obtain⟨a2,c2,eh,-⟩:=zf hk2
   have FL:=qh eh
   rw[eh]
   clear e1 e2 hk2 eh
   (refine qq ?_)
   (repeat(first|(refine qW ?_;intros;rename_i hM)|(refine qMk ?_;clear hM;intro w bk hM)))
   (refine qK3 (fun R hR=> ?_))
   refine(pR.out _ hM.to_below).mono ?_
   rintro e w' ⟨s3,rfl,aL,kC⟩
   replace hM:=hM.madeM kC (zo _ _ _ _)
   refine qho ?_;clear hR R kC
   have HK3:=qh aL
   obtain⟨a3,c3,iP,-⟩:=zf aL
   have HV3:=qh iP
   rw[iP]
   clear aL iP
   (refine qq ?_)
   (repeat(first|(refine qW ?_;intros;rename_i hM)|(refine qMk ?_;clear hM;intro w bk hM)))
   rw[←FL.out]
   refine St.appendAny (s:=s2) (n:=kB.length) (xs:=kB.flatMap ah.cells) (news:=UP.flatMap ah.cells) rfl hM rfl rfl rfl rfl rfl (by kernel_rfl) qsf HK2.out (fun h=>te HK3.out HV3.out h) (by rw[yr]) (fun ad h j' u cK=>by
    obtain⟨g,rfl,hc⟩:=hM.fL (fun y hy=>laEz _ hy) HV3.out ad h
    rw[ZT,Nat.zero_add]
    exact hc j' u cK) (Ad _) (by rw[zj];omega) (by omega) (fun h=>by cases h) ?_
   clear hM;intro w s4 hM hk4 _ _
   have e1:kB.flatMap ah.cells++UP.flatMap ah.cells=(kB++UP).flatMap ah.cells:=by rw[laWz]
   have e2:kB.length+UP.length=(kB++UP).length:=by simp
   rw[e1] at hM hk4
   rw[e2] at hk4 ⊢
   rw[HY2.out] at hM hk4 ⊢
   have HK4:=qh hk4
   obtain⟨a4,c4,tz,-⟩:=zf hk4
   have FM:=qh tz
   rw[tz]
   clear hk4 tz e1 e2
   (refine qq ?_)
   (repeat(first|(refine qW ?_;intros;rename_i hM)|(refine qMk ?_;clear hM;intro w bk hM)))
   replace hM:=hM.nI
   (try simp only[Exit.then])
   rw[←FM.out]
   (refine⟨?_,qio⟩;repeat(first|exact⟨⟨k+1,s4,_,by omega,rfl,rfl,qh rfl,HK4,hM⟩,rfl⟩|apply Exists.intro))
  ·have k0:¬((k:Int)<(zn.length:Int)):=by omega
   obtain rfl:k=zn.length:=by omega
   have hys:=HY.out
   rw[lbSz] at hys
   subst hys
   rw[hu]
   clear hlt hk HY hu
   (repeat(first|(refine qW ?_;intros;rename_i hM)|(refine qMk ?_;clear hM;intro w bk hM)))
   (refine qf ?_)
   exact⟨s,by rw[HU.out];rfl,HK.out,hM.forget⟩
theorem FN(h:av X t zs hs w0)(I:In.Inv N t)(hN:N≤900000){z:NodV}{id:Int}(cY:Zd zs id=some z)(dir:ByteArray):
  Calls Tryz.prog 89 #[.pointer (some ⟨X.f,0,none⟩),.int .i64 id,.string dir,.int .i64 40] w0 (yn [] w0):=by
 have hM:=St.start w0 []
 have HN1:=qh (show An 148 #[.pointer (some ⟨X.f,0,none⟩),.int .i64 id] w0 (.agg z.cells.toArray) by have:=ti h id;rwa [cY] at this)
 have hzs:z∈zs:=laUz cY
 have hk:=h.names z hzs
 obtain⟨za,zc,hzv,tv⟩:=zf hk
 have pP:z.cells=[.int .i64 z.1.id,.bool z.1.dir,.int .i64 z.1.links,.int .i64 z.1.holds,.string z.1.data,.slice za z.1.names.length zc]:=NodV.open hzv
 rw[pP] at HN1
 generalize z.1.names.length=zn at*
 clear h I hN cY hzv hk pP tv
 go_enter Tryz.func89,Tryz.ntmps89
 (refine qw ?_;intros;rename_i hM)
 (refine qK3 (fun R hR=> ?_))
 refine HN1.out.mono ?_
 (refine qJ3 hR hM ?_;clear hR R hM;intro w' hM)
 rcases Nat.eq_zero_or_pos zn with rfl|h0
 ·(refine qw ?_;intros;rename_i hM)
  refine wp_loop_rounds 1 ?_
  (refine Zq (fun K hK=> ?_))
  (refine qw ?_;intros;rename_i hM)
  (refine qf ?_)
  exact⟨none,rfl,⟨rfl,rfl⟩,hM.forget⟩
 ·(refine qw ?_;intros;rename_i hM)
  refine wp_loop_rounds 1 ?_
  (refine Zq (fun K hK=> ?_))
  (refine qw ?_;intros;rename_i hM)
  (refine qf ?_)
  exact⟨none,rfl,⟨rfl,rfl⟩,hM.forget⟩
theorem Ae(I:In.Inv N t)(hN:N≤900000): ∀ (k:Nat) (id:Int) (dir:ByteArray) (w0:World),k≤40→av X t zs hs w0→(∃ n,In.find t.nodes id=some n)→dir.size+33*k≤1000000→(Fs.under t k id dir).length≤1000000→
  Calls Tryz.prog 89 #[.pointer (some ⟨X.f,0,none⟩),.int .i64 id,.string dir,.int .i64 ((40 - k:Nat):Int)] w0 (yn (Fs.under t k id dir) w0)
 |0,id,dir,w0,_,h,hn,_,_=>by
  obtain⟨n,hn⟩:=hn
  have hf:=h.tbl.find id
  rw[hn] at hf
  obtain⟨z,hz,-⟩:=Option.map_eq_some_iff.1 hf.symm
  exact FN h I hN hz dir
 |k+1,id,dir,w0,hk,h,hn,hs1,hl=>by
  obtain⟨n,hn⟩:=hn
  have hf:=h.tbl.find id
  rw[hn] at hf
  obtain⟨z,hz,m_⟩:=Option.map_eq_some_iff.1 hf.symm
  have hat:In.at_ t id=z.1:=by rw[In.at_some hn,m_]
  have hu:Fs.under t (k+1) id dir=z.1.names.flatMap fun p=>fileOf t dir p::Fs.under t k p.2 (Pt.join dir p.1):=by
   rw[Fs.under,hat]
   rfl
  rw[hu] at hl ⊢
  have cY:z.1∈t.nodes:=h.tbl.mem (laUz hz)
  refine FJ h I hN hz (by omega) (deep:=40 - (k+1)) (by omega) (fun p=>Fs.under t k p.2 (Pt.join dir p.1)) hl fun p hp W hb=> ?_
  rw[show 40 - (k+1)+1=40 - k by omega]
  refine Ae I hN k p.2 (Pt.join dir p.1) W (by omega) (h.below hb) (I.leads _ cY p hp) ?_ ?_
  ·have:=tp dir p.1
   have:=I.short _ cY p hp
   omega
  ·obtain⟨A,B,hAB⟩:=List.append_of_mem hp
   rw[hAB,laWz,laOz] at hl
   simp only[laNz,laPz] at hl
   omega
theorem Af{d:FsD}(h:av X d.t zs hs w0)(I:Fs.Inv N d)(hN:N≤900000)(U:In.Up d.t)(L:Fs.ao d.t):Calls Tryz.prog 43 #[.pointer (some ⟨X.f,0,none⟩)] w0 (yn (Fs.files d) w0):=by
 have hM:=St.start w0 []
 have hfl:=Fs.ck I U
 have HC:=qh (fun (W:World) (hb:Below w0.heap.size w0 W)=>Ae (X:=X) I.tbl hN 40 1 ⟨#[]⟩ W (Nat.le_refl _) (h.below hb) (by obtain⟨r,h1,-⟩:=I.tbl.root;exact⟨r,h1⟩) (by show 0+33*40≤1000000;omega) (by rw[Fs.eT I.tbl U L];omega))
 rw[Fs.eT I.tbl U L] at HC
 clear h I U L
 go_enter Tryz.func43,Tryz.ntmps43
 (refine qw ?_;intros;rename_i hM)
 (refine qK3 (fun R hR=> ?_))
 refine(HC.out _ hM.to_below).mono ?_
 rintro e w' ⟨s3,rfl,aL,kC⟩
 replace hM:=hM.madeM kC (zo _ _ _ _)
 refine qho ?_;clear hR R kC
 have HK3:=qh aL
 obtain⟨a3,c3,iP,-⟩:=zf aL
 have HV3:=qh iP
 rw[iP]
 clear aL iP
 (refine qq ?_)
 (refine qw ?_;intros;rename_i hM)
 (refine qf ?_)
 exact⟨s3,by rw[HV3.out];rfl,HK3.out,by rw[laYz] at hM;exact hM⟩
end
end
section
open Go.RowKit Go.Maps
section
variable {w0 w:World}{s1 s2:Option (Nat×Nat)}
theorem rM{xs:List Value}{e:TypeId}{g cap:Nat}(hA:At (slL (some (g,cap)) xs e 1) w){k:Nat}{v:Value}(hk:xs[k]? =some v):w.cell? ⟨g,k,none⟩=some v:=
 Res.cell (hA.has (g,true,.pre xs e (cap*1)) (.head _)) hk
theorem FO(er n:Int)(da:ByteArray){xs:List ByteArray}(hk1:TxOK s1 xs)(hk2:TxOK s2 xs)(hl:xs.length≤1000000)(hA1:At (txL s1 xs) w0)(jO:At (txL s2 xs) w0):
  An 19 #[.agg #[.int .i64 er,.int .i64 n,.string da,slV s1 xs.length],.agg #[.int .i64 er,.int .i64 n,.string da,slV s2 xs.length]] w0 (.bool true):=by
 have hM:=St.start w0 []
 obtain⟨a1,c1,gS,l8⟩:=zf hk1
 obtain⟨a2,c2,eh,l9⟩:=zf hk2
 rw[gS,eh]
 have H1:=qh hA1
 have H2:=qh jO
 have K1:=qh hk1
 have K2:=qh hk2
 clear hk1 hk2 hA1 jO gS eh
 go_enter Tryz.func19,Tryz.ntmps19
 try(refine qW ?_;clear hM;intros;rename_i hM)
 ((refine qMk ?_);clear hM;intro w mQ hM)
 (repeat(first|(refine qW ?_;intros;rename_i hM)|(refine qMk ?_;clear hM;intro w bk hM)))
 go_loopw [5] (fun i wr=> ∃ k:Nat,k≤xs.length∧i= .int .i64 k∧St w0 [] wr [(bk,true,Res.cells [.int .i64 er,.int .i64 n,.string da,.slice a2 xs.length c2] 31),(mQ,true,Res.cells [.int .i64 er,.int .i64 n,.string da,.slice a1 xs.length c1] 31)]) (fun i _=>xs.length - (intOf i).toNat)
 case atStart=>exact⟨0,by omega,rfl,hM⟩
 case round=>
  clear hM
  obtain⟨k,hk,rfl,hM⟩:=hrel
  by_cases hlt:k<xs.length
  ·obtain⟨f,hf⟩:=zK hlt
   rcases s1 with _|⟨g1,cap1⟩
   ·exact absurd K1.out.2 (by omega)
   rcases s2 with _|⟨g2,cap2⟩
   ·exact absurd K2.out.2 (by omega)
   obtain⟨rfl,rfl⟩:=l8 g1 cap1 rfl
   obtain⟨rfl,rfl⟩:=l9 g2 cap2 rfl
   have hv:(xs.map Value.string)[k]? =some (.string f):=by rw[lbCz,hf];rfl
   have r1:=rM H1.out hv
   have r2:=rM H2.out hv
   have k1:(k:Int)<(xs.length:Int):=by omega
   clear hf hv hlt
   (repeat(first|(refine qW ?_;intros;rename_i hM)|(refine qMk ?_;clear hM;intro w bk hM)))
   (try simp only[Exit.then])
   (refine⟨?_,qio⟩;repeat(first|exact⟨⟨k+1,by omega,rfl,hM⟩,rfl⟩|apply Exists.intro))
  ·have k0:¬((k:Int)<(xs.length:Int)):=by omega
   clear hlt hk
   (repeat(first|(refine qW ?_;intros;rename_i hM)|(refine qMk ?_;clear hM;intro w bk hM)))
   exact qfb
theorem FP{xs:List Int}(hk1:SlOK s1 xs.length (xs.map (Value.int .i64)) 1)(hk2:SlOK s2 xs.length (xs.map (Value.int .i64)) 1)(hl:xs.length≤1000000)(hA1:At (slL s1 (xs.map (Value.int .i64)) 3 1) w0)(jO:At (slL s2 (xs.map (Value.int .i64)) 3 1) w0):
  An 41 #[slV s1 xs.length,slV s2 xs.length] w0 (.bool true):=by
 have hM:=St.start w0 []
 obtain⟨a1,c1,gS,l8⟩:=zf hk1
 obtain⟨a2,c2,eh,l9⟩:=zf hk2
 rw[gS,eh]
 have H1:=qh hA1
 have H2:=qh jO
 have K1:=qh hk1
 have K2:=qh hk2
 clear hk1 hk2 hA1 jO gS eh
 go_enter Tryz.func41,Tryz.ntmps41
 (refine qw ?_;intros;rename_i hM)
 go_loopw [5] (fun i wr=> ∃ k:Nat,k≤xs.length∧i= .int .i64 k∧St w0 [] wr []) (fun i _=>xs.length - (intOf i).toNat)
 case atStart=>exact⟨0,by omega,rfl,hM⟩
 case round=>
  clear hM
  obtain⟨k,hk,rfl,hM⟩:=hrel
  by_cases hlt:k<xs.length
  ·obtain⟨f,hf⟩:=zK hlt
   rcases s1 with _|⟨g1,cap1⟩
   ·exact absurd K1.out.2 (by omega)
   rcases s2 with _|⟨g2,cap2⟩
   ·exact absurd K2.out.2 (by omega)
   obtain⟨rfl,rfl⟩:=l8 g1 cap1 rfl
   obtain⟨rfl,rfl⟩:=l9 g2 cap2 rfl
   have hv:(xs.map (Value.int .i64))[k]? =some (.int .i64 f):=by rw[lbCz,hf];rfl
   have r1:=rM H1.out hv
   have r2:=rM H2.out hv
   have k1:(k:Int)<(xs.length:Int):=by omega
   clear hf hv hlt
   (refine qw ?_;intros;rename_i hM)
   (try simp only[Exit.then])
   (refine⟨?_,qio⟩;repeat(first|exact⟨⟨k+1,by omega,rfl,hM⟩,rfl⟩|apply Exists.intro))
  ·have k0:¬((k:Int)<(xs.length:Int)):=by omega
   clear hlt hk
   exact qwf
end
end
end Go.Proofs.YtcicjklhbnipcaaGreatDoor
