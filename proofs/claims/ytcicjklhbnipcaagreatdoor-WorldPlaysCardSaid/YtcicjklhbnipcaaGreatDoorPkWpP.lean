/-
  Laid texts.
-/
import Derived.Test.YtcicjklhbnipcaaGreatDoorPkWpO
set_option maxHeartbeats 16000000
set_option maxRecDepth 1000000
set_option linter.unusedVariables false
set_option linter.unusedSimpArgs false
namespace Go.Proofs.YtcicjklhbnipcaaGreatDoor
section
open Go.RowKit Go.Maps
theorem IB(q:Int)(a:Option Addr)(n c:Nat)(xs:List ActV)(w0:World)(Jn:(Lit.int .i64 q).wf=true)(hx:zly w0 w0.heap.size [.slice a n c] xs)(hX:Mx w0):An 11 #[.int .i64 q,.slice a n c] w0 (.bool true):=by
 have hM:=St.start w0 []
 have HX:=qh hX
 have r8:=qh (zms hx)
 have F0:0∉([]:List Nat):=nofun
 obtain rfl:n=xs.length:=r8.out.1
 have hn:xs.length≤maxLen:=r8.out.2.1
 rw[zj] at hn
 clear hX hx
 go_enter Tryz.func11,Tryz.ntmps11
 (repeat(first|(refine qW ?_;intros;rename_i hM)|(refine qMk ?_;clear hM;intro w bk hM)))
 (refine qKx ?_;intro R hR)
 refine(Im 40 (by decide) (by decide) (r8.out.below hM.to_below)).mono ?_
 rintro e w' ⟨b,rfl,hsm,hb⟩
 replace hM:=hM.below hb
 refine qho ?_;clear hR R hb
 have HSM:=qh hsm
 clear hsm
 (refine qq ?_)
 cases b with
 |false=>
  (repeat(first|(refine qW ?_;intros;rename_i hM)|(refine qMk ?_;clear hM;intro w bk hM)))
  (refine qKx ?_;intro R hR)
  refine(xH _ (hM.mx HX.out F0)).mono ?_
  first|(refine qJ hR hM ?_;clear hR R hM;intro w' hM)|(refine qJ3 hR hM ?_;clear hR R hM;intro w' hM)
  (repeat(first|(refine qW ?_;intros;rename_i hM)|(refine qMk ?_;clear hM;intro w bk hM)))
  exact qfb
 |true=>
  have hlen:xs.length≤40:=by have:=(HSM.out rfl).1;omega
  by_cases hq:In.newE q=0
  ·have mN:64≤q∧q≤1099511627776:=by
    unfold In.newE at hq
    by_cases c:(decide (q<64)||decide (1099511627776<q))=true
    ·rw[if_pos c] at hq;cases hq
    ·simp only[Bool.or_eq_true,decide_eq_true_eq] at c
     omega
   have HN1:=qh (fun (U:World) (hm:Mx U)=>A1 q U hq hm)
   have kH:=qh (fun (U:World)=>G6 q mN.1 mN.2 U)
   have HI:=qh (Wd.inv_new mN.1 mN.2)
   clear hq mN
   (repeat(first|(refine qW ?_;intros;rename_i hM)|(refine qMk ?_;clear hM;intro w bk hM)))
   (refine qK3 (fun R hR=> ?_))
   refine(HN1.out _ (hM.mx HX.out F0)).mono ?_
   rintro e w' ⟨X,β,γ,rfl,oM,hN⟩
   replace hM:=hM.madeM hN (zC _ _ _ _)
   rw[laYz] at hM
   refine qho ?_;clear hR R hN HN1
   generalize mK:cO.b X=xb
   (refine qq ?_)
   (repeat(first|(refine qW ?_;intros;rename_i hM)|(refine qMk ?_;clear hM;intro w bk hM)))
   (refine qK3 (fun R hR=> ?_))
   refine(kH.out _).mono ?_
   rintro e w' ⟨Y,V,rfl,hrd,hb,hfr⟩
   have HA:=qh (show ∀ k∈fi Y (Wd.new q) V,w0.heap.size≤k∧k∉ze (aK X β γ (Wd.new q)) from fun k hk=>by
    have h1:=hfr k hk
    have h2:=hM.only.size
    exact⟨by omega,fun h3=>by have:=hM.whole.lt k h3;omega⟩)
   replace hM:=hM.below hb
   refine qho ?_;clear hR R hb hfr kH
   have HR:=qh hrd
   clear hrd
   generalize oU:km.w Y=yw
   (refine qq ?_)
   (repeat(first|(refine qW ?_;intros;rename_i hM)|(refine qMk ?_;clear hM;intro w bk hM)))
   go_loopw [9,10,11,12,13,14,15,68,78] (fun i _ _ _ _ _ _ _ _ wr=> ∃ (j:Nat) (X:cO) (β γ:Int→Nat×Nat) (W:aB) (Y:km) (V:fh),j≤xs.length∧i= .int .i64 j∧X.b=xb∧Y.w=yw∧Hid (eX X W)∧Hid (Wd.Inv (1+3*j) W)∧Hid (bE (1+3*j) Y W V wr)∧Hid (∀ k∈fi Y W V,w0.heap.size≤k∧k∉ze (aK X β γ W))∧St w0 [] wr (aK X β γ W)) (fun i _ _ _ _ _ _ _ _ _=>xs.length - (intOf i).toNat)
   case atStart=>exact⟨0,X,β,γ,_,Y,V,by omega,rfl,mK,oU,qh oM,HI,HR,HA,hM⟩
   case round=>
    clear hM oM mK oU HI HR HA
    obtain⟨j,X,β,γ,W,Y,V,hj,rfl,mK,oU,HK,HI,HR,HA,hM⟩:=hrel
    have HO:=qh hM.only
    have uu:=qh (hM.mx HX.out F0)
    have oo: ∀ k∈ze (aK X β γ W),w0.heap.size≤k:=fun k hk=>by
     obtain⟨y,hy,rfl⟩:=laKz.1 hk
     exact(hM.own y hy (zC _ _ _ _ y hy)).resolve_left nofun
    have bJ:=hM.whole.st
    have ml:=HA
    obtain⟨F1,qy⟩: ∃ F1,ze (aK X β γ W)=F1:=⟨_,rfl⟩
    rw[qy] at bJ oo ml
    have ee:=qh oo
    have uv:0∉F1:=fun h0=>by have:=oo 0 h0;have:=HX.out.pos;omega
    clear hM oo qy
    have hM:=bJ
    clear bJ
    by_cases hlt:j<xs.length
    ·obtain⟨x,uw⟩:=zK hlt
     obtain⟨hf,bb,off,rfl,hc0,-⟩:=r8.out.get uw
     have ux:=(HSM.out rfl).2 j x uw
     have hop:=Iz hf ux
     have hsm:x.op.Sm:=Hi ux
     have mm:=hf.pid
     have mO:=hf.op.pid
     have hbl:bb<w0.heap.size:=World.block_lt_of_cell? w0 ⟨bb,off+j*12,none⟩ (hc0 0 _ rfl)
     have qc:=qh hbl
     have r9:=qh hc0
     have ql:bb∉F1:=fun h1=>by have:=ee.out bb h1;omega
     have hcw:=yR HO.out hc0 (lbRz)
     have j1:(j:Int)<(xs.length:Int):=by omega
     have CP:=qh (fun (U:World) (hA:aC (1+3*j) X β γ W U)=>Ia hA (by omega) x mm hop mO)
     have HN:=qh (Wd.dd HI.out (by omega) x hop)
     have HNM:=qh (Wd.eI HI.out x)
     have CD:=qh (fun (U:World) (hR:bE (1+3*j) Y W V U)=>Il hR (by omega) x hsm hop)
     rw[oU] at CD
     obtain⟨G,hG⟩: ∃ G,Wd.step W x=G:=⟨_,rfl⟩
     rw[hG] at CP HN HNM CD
     obtain⟨⟨er,nn,da,ns⟩,W2⟩:=G
     obtain⟨ak,ap,aq,⟨pk,pp,pd,ph,pa,pn,px,py,pb⟩⟩:=x
     simp only[ActV.cells,OpD.cells] at hcw CP CD r9
     simp only at mm HN HNM
     have qz:=qh mm
     clear hc0 uw hf ux hop hsm mO hlt hG hbl mm
     (repeat(first|(refine qW ?_;intros;rename_i hM)|(refine qMk ?_;clear hM;intro w bk hM)))
     (refine qK3 (fun R hR=> ?_))
     have C:=CP.out _ (hM.fj .all HK.out HI.out uu.out uv)
     rw[mK] at C
     refine C.mono ?_
     rintro e w' ⟨s1,X2,β2,γ2,rfl,hok1,lF,qF,hN⟩
     replace hM:=hM.backM .all (zC _ _ _ _) hN (rZ (zL _ _) (zC _ _ _ _))
     refine qho ?_;clear hR R hN C CP
     obtain⟨sa,sc,hsv,-⟩:=zf hok1
     have uy:=qh hok1
     have HK2:=qh qF
     have lF:X2.b=xb:=lF.trans mK
     have hsv':slV s1 ns.length=_:=hsv
     have HSV:=qh hsv'
     simp only
     rw[hsv]
     clear hok1 qF hsv hsv'
     (refine qq ?_)
     (repeat(first|(refine qWo ?_;clear hM;intros;rename_i hM)|((refine qMk ?_);clear hM;intro w bk hM)))
     (refine qM ?_)
     obtain⟨bJ,mf,oV,gV⟩:=Ix hM (uk (rZ (zL _ _) (zC _ _ _ _))) HO.out HR.out ml.out ee.out
     have Bi:=qh mf
     have uz:=qh oV
     have fc:=qh gV
     have hcw:=yR oV r9.out (lbRz)
     have ql:bb∉ze ((_,true,_)::(txL s1 ns++aK X2 β2 γ2 W2))++lM Y W V:=fun h1=>by
      have:=qc.out
      rcases laAz.1 h1 with h2|h2
      ·have:=(gV _ h2).1;omega
      ·have:=(ml.out _ (rR _ h2)).1;omega
     clear hM mf oV gV
     have hM:=bJ
     clear bJ
     (repeat(first|(refine qW ?_;intros;rename_i hM)|(refine qMk ?_;clear hM;intro w bk hM)))
     (refine qK3 (fun R hR=> ?_))
     refine(CD.out _ Bi.out).mono ?_
     rintro e w' ⟨s2,Y2,V2,rfl,hok2,jO,hf2,hto⟩
     replace hto:bC (1+3*j+3) Y W V Y2 W2 V2 _ _:=hto
     replace hM:=hM.beside hto.only (fun k hk=>⟨.inl (laCz _ hk),fun hm=>(fc.out k hm).2.2 (rR k hk)⟩)
     replace hM:=(hM.mc jO (fun k hk=>⟨(hf2 k hk).1,fun hm=>by have:=(fc.out k hm).2.1;have:=(hf2 k hk).1;omega⟩)).perm (Bg _ _ _)
     obtain⟨sb,sd,hsv2,-⟩:=zf hok2
     have HOK2:=qh hok2
     have qH:=qh hsv2
     simp only
     rw[hsv2]
     have qN:=qh hf2
     have cL:=qh hto
     refine hR.out _ _ ?_;clear hR R hok2 hsv2 jO hf2 hto hcw ql
     (refine qq ?_)
     refine St.og (ty:=31) (z:= .agg #[.int .i64 0,.int .i64 0,.string ⟨#[]⟩,.slice none 0 0]) rfl hM rfl rfl (by kernel_rfl) ?_
     clear hM;intro w IC Bj ID hM
     (try simp only[Res.put,Res.known,Act.eval,Value.cells,zR,qGz,qGs,lcRz,qSz,qSs,over,Nat.reduceAdd] at hM)
     (refine qq ?_)
     (refine St.kp rfl hM rfl rfl rfl rfl rfl qm (Nat.le_of_ble_eq_true rfl) (Nat.le_of_ble_eq_true rfl) (by kernel_rfl) rfl ?_ ?_;(focus(first|(intro h;cases h;done)|(intro _;repeat(first|exact Rest.here (Sub.all _)|exact Rest.here Sub.nil|apply Rest.take|apply Rest.skip))));clear hM;intro w kD hM;(try simp only[Res.put,Res.known,Act.eval,Value.cells,zR,qGz,qGs,lcRz,qSz,qSs,over,Nat.reduceAdd] at hM);(refine qq ?_))
     (repeat(first|(refine qWo ?_;clear hM;intros;rename_i hM)|((refine qMk ?_);clear hM;intro w bk hM)))
     (refine qM ?_)
     have hto:=cL.out
     have mf:=(hto.is.below Bj).only kD (fun k hk hm=>by
      have h1:=hto.is.lt k hk
      rw[laGz.1 hm] at h1
      omega)
     have r_: ∀ k∈fi Y2 W2 V2,w0.heap.size≤k∧k∉IC::bk::ze (txL s2 ns++(txL s1 ns++aK X2 β2 γ2 W2)):=fun k hk=>by
      have hs:=uz.out.size
      have h3:k∉ze (txL s2 ns):=fun hm=>(qN.out k hm).2 hk
      have h4:=hto.is.lt k hk
      rcases hto.grow k hk with h1|h1
      ·refine⟨(ml.out k h1).1,fun h2=> ?_⟩
       rcases laBz.1 h2 with h2|h2
       ·omega
       ·exact(Bh (a:=(bk,true,Res.cells [] 0)) h2).elim h3 (fun h2=>(fc.out k h2).2.2 h1)
      ·refine⟨by omega,fun h2=> ?_⟩
       rcases laBz.1 h2 with h2|h2
       ·omega
       ·exact(Bh (a:=(bk,true,Res.cells [] 0)) h2).elim h3 (fun h2=>by have:=(fc.out k h2).2.1;omega)
     have lu:=qh mf
     have qQ:Y2.w=yw:=hto.ww.trans oU
     obtain⟨bJ,oV,Bk,jO⟩:=Hc hM uz.out (fun k hk=>(laAz.1 hk).elim (fun h=>(fc.out k h).1) (fun h=>(ml.out k (rR k h)).1)) (uk (uk (rZ (zL _ _) (rZ (zL _ _) (zC _ _ _ _))))) r_
     have qY:=qh jO
     have uA:=qh oV
     have HF2:=qh Bk
     clear hM hto oV Bk jO CD fc Bi uz HR kD mf cL qN Bj ID
     have hM:=bJ
     clear bJ
     have hnl:ns.length≤_:=HNM.out
     have qZ:=qh (fun (U:World) (hA:At (txL s1 ns) U) (hB:At (txL s2 ns) U)=>FO (w0:=U) er nn da (xs:=ns) (s1:=s1) (s2:=s2) uy.out HOK2.out (by omega) hA hB)
     rw[HSV.out,qH.out] at qZ
     have IE:=qh (show ∀ k∈fi Y2 W2 V2,w0.heap.size≤k∧k∉ze (aK X2 β2 γ2 W2) from fun k hk=>⟨(r_ k hk).1,fun h=>(r_ k hk).2 (.tail _ (.tail _ ((List.Sublist.map _ ((laFz (txL s1 ns) _).trans (laFz (txL s2 ns) _))).subset h)))⟩)
     clear r_
     generalize ze _=F2 at hM qY HF2
     have uB:w.cell? ⟨Y2.w,0,none⟩=some (.pointer (some ⟨Y2.d.d,0,none⟩)):=lu.out.row 0 _ rfl
     have IF:w.cell? ⟨Y2.w,1,none⟩=some (.pointer (some ⟨Y2.p.t,0,none⟩)):=lu.out.row 1 _ rfl
     have IG:w.cell? ⟨Y2.d.d,0,none⟩=some (.pointer (some ⟨Y2.d.now.f,0,none⟩)):=lu.out.aG.od 0 _ rfl
     have II:w.cell? ⟨Y2.d.d,2,none⟩=some (slV Y2.d.s W2.d.log.length):=lu.out.aG.od 2 _ rfl
     have Jo:w.cell? ⟨Y2.d.now.f,0,none⟩=some (.pointer (some ⟨Y2.d.now.x.g,0,none⟩)):=lu.out.aG.now.is.row 0 _ rfl
     have oq:Y2.w∉F2:=(qY.out _ bE.wK).2
     have uC:Y2.d.d∉F2:=(qY.out _ bE.Bf).2
     have IJ:Y2.d.now.f∉F2:=(qY.out _ bE.Iy).2
     have hcw:=yR uA.out r9.out (lbRz)
     have cP:w.cell? ⟨bb,off+j*12+1,none⟩=some (.int .i64 ap):=hcw 1 _ rfl
     have ql:bb∉F2:=fun h1=>by have:=qc.out;have:=HF2.out bb h1;omega
     clear hcw
     obtain⟨ya,yc,bD,-⟩:=zf lu.out.aG.iR
     rw[bD] at II
     rw[qQ] at uB IF oq
     have HMX:=qh (show Mx w by obtain⟨m,hm⟩:=HX.out;exact⟨m,yi uA.out hm nofun⟩)
     have se:0∉F2:=fun h0=>by have:=HF2.out 0 h0;have:=HX.out.pos;omega
     have oW:=qh (fun (U:World) (ho:Only F2 w U)=>lu.out.only ho (fun k hk=>(qY.out k hk).2))
     obtain⟨B,hB⟩: ∃ B,Pc.birth W2.p.aa ap=B:=⟨_,rfl⟩
     obtain⟨E,hE⟩: ∃ E,Pc.bd W2.p ap=E:=⟨_,rfl⟩
     have CB:=qh (fun (U:World) (h:aC (1+3*j+3) X2 β2 γ2 W2 U)=>Xr h.row h.bV rfl qz.out)
     rw[hB,hE,lF] at CB
     have CE:=qh (fun (U:World) (h:bE (1+3*j+3) Y2 W2 V2 U)=>Yh h.bV ap)
     rw[hB,hE] at CE
     have CU:=qh (fun (U:World) (h:aC (1+3*j+3) X2 β2 γ2 W2 U)=>Hr h)
     have CL:=qh (fun (U:World) (h:aC (1+3*j+3) X2 β2 γ2 W2 U)=>H7 h)
     rw[Hh HK2.out.gD] at CL
     have CI:=qh (fun (U:World) (h:aC (1+3*j+3) X2 β2 γ2 W2 U)=>uq h.row h.bV rfl)
     rw[lF] at CU CL CI
     have o0:=qh (fun (U:World) (hR:bE (1+3*j+3) Y2 W2 V2 U)=>(show An 40 #[.pointer (some ⟨Y2.d.now.x.g,0,none⟩)] U (.int .i64 W2.d.now.t.used) by
      have h1:=zal hR.aG.now.is.tbl.raw (hR.aG.now.is.tbl.dl hR.aG.now.inv.inv.tbl)
      rwa [hR.aG.now.is.tbl.sum hR.aG.now.inv.inv.tbl] at h1))
     have IL:=qh (fun (U:World) (h:bE (1+3*j+3) Y2 W2 V2 U)=>Gt h.bV)
     have hpl:(Pc.fR W2.p).length≤1000000:=Pc.lE lu.out.bV.fit
     have Jp:=qh (fun (U:World) (hA:At (aK X2 β2 γ2 W2) U) (hm:Mx U) (h0:0∉ze (aK X2 β2 γ2 W2))=>(⟨hA,HK2.out,HN.out,hm,h0⟩:aC (1+3*j+3) X2 β2 γ2 W2 U))
     have Jq:=qh bD
     generalize W2.d.now.t.used=US at*
     generalize W2.d.log.length=LG at*
     generalize Pc.fR W2.p=PI at*
     clear bD hB hE qc qz r9 HO ee ml HNM HSV qH
     (repeat(first|(refine qW ?_;intros;rename_i hM)|(refine qMk ?_;clear hM;intro w bk hM)))
     (refine qKx ?_;intro R hR)
     refine(CB.out _ (hM.fj (.skip (.skip (.past (.past .all)))) HK2.out HN.out HMX.out se)).mono ?_
     first|(refine qJ hR hM ?_;clear hR R hM;intro w' hM)|(refine qJ3 hR hM ?_;clear hR R hM;intro w' hM)
     (repeat(first|(refine qW ?_;intros;rename_i hM)|(refine qMk ?_;clear hM;intro w bk hM)))
     (refine qKx ?_;intro R hR)
     refine(CE.out _ (oW.out _ hM.only)).mono ?_
     first|(refine qJ hR hM ?_;clear hR R hM;intro w' hM)|(refine qJ3 hR hM ?_;clear hR R hM;intro w' hM)
     (repeat(first|(refine qW ?_;intros;rename_i hM)|(refine qMk ?_;clear hM;intro w bk hM)))
     (refine qKx ?_;intro R hR)
     refine(qZ.out _ (hM.part (.skip (.skip (.past .here)))) (hM.part (.skip (.skip .here)))).mono ?_
     first|(refine qJ hR hM ?_;clear hR R hM;intro w' hM)|(refine qJ3 hR hM ?_;clear hR R hM;intro w' hM)
     (repeat(first|(refine qW ?_;intros;rename_i hM)|(refine qMk ?_;clear hM;intro w bk hM)))
     (refine qKx ?_;intro R hR)
     refine(CU.out _ (hM.fj (.skip (.skip (.past (.past .all)))) HK2.out HN.out HMX.out se)).mono ?_
     first|(refine qJ hR hM ?_;clear hR R hM;intro w' hM)|(refine qJ3 hR hM ?_;clear hR R hM;intro w' hM)
     (repeat(first|(refine qW ?_;intros;rename_i hM)|(refine qMk ?_;clear hM;intro w bk hM)))
     (refine qKx ?_;intro R hR)
     refine(o0.out _ (oW.out _ hM.only)).mono ?_
     first|(refine qJ hR hM ?_;clear hR R hM;intro w' hM)|(refine qJ3 hR hM ?_;clear hR R hM;intro w' hM)
     (repeat(first|(refine qW ?_;intros;rename_i hM)|(refine qMk ?_;clear hM;intro w bk hM)))
     (refine qKx ?_;intro R hR)
     refine(CL.out _ (hM.fj (.skip (.skip (.past (.past .all)))) HK2.out HN.out HMX.out se)).mono ?_
     first|(refine qJ hR hM ?_;clear hR R hM;intro w' hM)|(refine qJ3 hR hM ?_;clear hR R hM;intro w' hM)
     (repeat(first|(refine qW ?_;intros;rename_i hM)|(refine qMk ?_;clear hM;intro w bk hM)))
     (refine qKx ?_;intro R hR)
     refine(CI.out _ (hM.fj (.skip (.skip (.past (.past .all)))) HK2.out HN.out HMX.out se)).mono ?_
     rintro e w' ⟨s3,rfl,hok3,dI⟩
     replace hM:=hM.madeM dI (zo _ _ _ _)
     (first|refine hR.out _ _ ?_|refine hR.out _ _ (fun h=>h.below dI.to_below) ?_);clear hR R dI
     have lz:=qh hok3
     clear hok3
     (refine qq ?_)
     (repeat(first|(refine qW ?_;intros;rename_i hM)|(refine qMk ?_;clear hM;intro w bk hM)))
     (refine qKx ?_;intro R hR)
     refine(IL.out _ (oW.out _ hM.only)).mono ?_
     rintro e w' ⟨s4,rfl,lG,jz⟩
     replace hM:=hM.madeM jz (zo _ _ _ _)
     (first|refine hR.out _ _ ?_|refine hR.out _ _ (fun h=>h.below jz.to_below) ?_);clear hR R jz
     have ot:=qh lG
     clear lG
     (refine qq ?_)
     (repeat(first|(refine qW ?_;intros;rename_i hM)|(refine qMk ?_;clear hM;intro w bk hM)))
     (refine qKx ?_;intro R hR)
     refine(FP lz.out ot.out hpl (hM.part (.past .here)) (hM.part .here)).mono ?_
     first|(refine qJ hR hM ?_;clear hR R hM;intro w' hM)|(refine qJ3 hR hM ?_;clear hR R hM;intro w' hM)
     (repeat(first|(refine qW ?_;intros;rename_i hM)|(refine qMk ?_;clear hM;intro w bk hM)))
     (try simp only[Exit.then])
     (refine⟨?_,qio⟩;repeat(first|exact⟨⟨j+1,X2,β2,γ2,W2,Y2,V2,by omega,rfl,lF,qQ,HK2,qh (HN.out.more (by omega)),qh ((oW.out _ hM.only).more (by omega)),IE,St.n_ uA.out (hM.subM ((((((laFz (txL s1 ns) _).trans (laFz (txL s2 ns) _)).cons _).cons _).trans (laFz _ _)).trans (laFz _ _))) (fun k hk=> .inr (HF2.out k hk))⟩,rfl⟩|apply Exists.intro))
    ·have k0:¬((j:Int)<(xs.length:Int)):=by omega
     obtain rfl:j=xs.length:=by omega
     clear hlt hj
     have uB:wr.cell? ⟨Y.w,0,none⟩=some (.pointer (some ⟨Y.d.d,0,none⟩)):=HR.out.row 0 _ rfl
     have IG:wr.cell? ⟨Y.d.d,0,none⟩=some (.pointer (some ⟨Y.d.now.f,0,none⟩)):=HR.out.aG.od 0 _ rfl
     have oq:Y.w∉F1:=(ml.out _ bE.wK).2
     have uC:Y.d.d∉F1:=(ml.out _ bE.Bf).2
     rw[oU] at uB oq
     have oW:=qh (fun (U:World) (ho:Only F1 wr U)=>HR.out.only ho (fun k hk=>(ml.out k hk).2))
     have jo:=HI.out.aG.now.up
     have tq:=qh (Fs.ck HI.out.aG.now.inv jo)
     have dt:=qh (fun (U:World) (hR:bE (1+3*xs.length) Y W V U)=>Af hR.aG.now.is hR.aG.inv.now.inv (by omega) hR.aG.inv.now.up hR.aG.law.now)
     have CF:=qh (fun (U:World) (h:aC (1+3*xs.length) X β γ W U)=>A2 h (by omega))
     rw[mK] at CF
     clear jo
     (repeat(first|(refine qW ?_;intros;rename_i hM)|(refine qMk ?_;clear hM;intro w bk hM)))
     (refine qKx ?_;intro R hR)
     refine(CF.out _ (hM.fj .all HK.out HI.out uu.out uv)).mono ?_
     rintro e w' ⟨s3,rfl,hok3,dI⟩
     replace hM:=hM.madeM dI (zo _ _ _ _)
     (first|refine hR.out _ _ ?_|refine hR.out _ _ (fun h=>h.below dI.to_below) ?_);clear hR R dI
     have lz:=qh hok3
     clear hok3
     (refine qq ?_)
     (repeat(first|(refine qW ?_;intros;rename_i hM)|(refine qMk ?_;clear hM;intro w bk hM)))
     (refine qKx ?_;intro R hR)
     refine(dt.out _ (oW.out _ hM.only)).mono ?_
     rintro e w' ⟨s4,rfl,lG,jz⟩
     replace hM:=hM.madeM jz (zo _ _ _ _)
     (first|refine hR.out _ _ ?_|refine hR.out _ _ (fun h=>h.below jz.to_below) ?_);clear hR R jz
     have ot:=qh lG
     clear lG
     (refine qq ?_)
     (repeat(first|(refine qW ?_;intros;rename_i hM)|(refine qMk ?_;clear hM;intro w bk hM)))
     (refine qKx ?_;intro R hR)
     refine(G8 lz.out ot.out (by have:=tq.out;omega) (hM.part (.past .here)) (hM.part .here)).mono ?_
     first|(refine qJ hR hM ?_;clear hR R hM;intro w' hM)|(refine qJ3 hR hM ?_;clear hR R hM;intro w' hM)
     (repeat(first|(refine qW ?_;intros;rename_i hM)|(refine qMk ?_;clear hM;intro w bk hM)))
     (refine qKx ?_;intro R hR)
     refine(xH _ (hM.mx uu.out uv)).mono ?_
     first|(refine qJ hR hM ?_;clear hR R hM;intro w' hM)|(refine qJ3 hR hM ?_;clear hR R hM;intro w' hM)
     (repeat(first|(refine qW ?_;intros;rename_i hM)|(refine qMk ?_;clear hM;intro w bk hM)))
     (refine qf ?_)
     exact⟨rfl,(HO.out.then hM.only (fun k hk=> .inr (ee.out k hk))).to_below (Nat.le_refl _) nofun⟩
  ·have iO:In.newE q=1:=by
    unfold In.newE at hq ⊢
    split
    ·rfl
    ·rename_i h;rw[if_neg h] at hq;exact absurd rfl hq
   have mN:q<64∨1099511627776<q:=by
    unfold In.newE at iO
    by_cases c:(decide (q<64)||decide (1099511627776<q))=true
    ·simp only[Bool.or_eq_true,decide_eq_true_eq] at c
     omega
    ·rw[if_neg c] at iO;cases iO
   have HN1:=qh (fun (U:World)=>IA q U iO)
   have kH:=qh (fun (U:World)=>G7 q mN U)
   clear hq iO mN
   (repeat(first|(refine qW ?_;intros;rename_i hM)|(refine qMk ?_;clear hM;intro w bk hM)))
   (refine qK3 (fun R hR=> ?_))
   refine(HN1.out _).mono ?_
   (refine qJ3 hR hM ?_;clear hR R hM;intro w' hM)
   (repeat(first|(refine qW ?_;intros;rename_i hM)|(refine qMk ?_;clear hM;intro w bk hM)))
   (refine qK3 (fun R hR=> ?_))
   refine(kH.out _).mono ?_
   (refine qJ3 hR hM ?_;clear hR R hM;intro w' hM)
   (repeat(first|(refine qW ?_;intros;rename_i hM)|(refine qMk ?_;clear hM;intro w bk hM)))
   (refine qKx ?_;intro R hR)
   refine(xH _ (hM.mx HX.out F0)).mono ?_
   first|(refine qJ3 hR hM ?_;clear hR R hM;intro w' hM)|(refine qJ hR hM ?_;clear hR R hM;intro w' hM)
   (repeat(first|(refine qW ?_;intros;rename_i hM)|(refine qMk ?_;clear hM;intro w bk hM)))
   exact qfb
end
end Go.Proofs.YtcicjklhbnipcaaGreatDoor
