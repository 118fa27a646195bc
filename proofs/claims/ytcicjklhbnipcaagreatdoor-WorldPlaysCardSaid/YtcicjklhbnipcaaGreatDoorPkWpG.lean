/-
  Laid texts.
-/
import Derived.Test.YtcicjklhbnipcaaGreatDoorPkWpF
set_option maxHeartbeats 16000000
set_option maxRecDepth 1000000
set_option linter.unusedVariables false
set_option linter.unusedSimpArgs false
namespace Go.Proofs.YtcicjklhbnipcaaGreatDoor
section
open Go.RowKit Go.Maps
def ins(x:ByteArray×Int):List (ByteArray×Int)→List (ByteArray×Int)
 |[]=>[x]
 |y::r=>if In.before y.1 x.1 then y::ins x r else x::y::r
theorem uE{x:ByteArray×Int}: ∀ {d:List (ByteArray×Int)},(∀ p∈d,In.same p.1 x.1=false)→ins x d=In.put x d
 |[],_=>rfl
 |y::r,h=>by
  have h1:=h y (.head _)
  have hne:y.1≠x.1:=fun e=>by rw[In.same_iff.2 e] at h1;cases h1
  have ih:=uE (d:=r) fun p hp=>h p (.tail _ hp)
  show(if In.before y.1 x.1 then y::ins x r else x::y::r)=if In.before x.1 y.1 then x::y::r else y::In.put x r
  rcases In.before_total hne with hb|hb
  ·have hn:In.before x.1 y.1=false:=by
    cases hc:In.before x.1 y.1 with
    |false=>rfl
    |true=>have:=In.before_trans hb hc;rw[In.before_irrefl] at this;cases this
   rw[if_pos hb,hn,if_neg nofun,ih]
  ·have hn:In.before y.1 x.1=false:=by
    cases hc:In.before y.1 x.1 with
    |false=>rfl
    |true=>have:=In.before_trans hb hc;rw[In.before_irrefl] at this;cases this
   rw[hn,if_neg nofun,if_pos hb]
theorem oX{x:ByteArray×Int}: ∀ (d:List (ByteArray×Int)),ins x d=d.take (d.takeWhile fun p=>In.before p.1 x.1).length++x::d.drop (d.takeWhile fun p=>In.before p.1 x.1).length
 |[]=>rfl
 |y::r=>by
  have ih:=oX (x:=x) r
  show(if In.before y.1 x.1 then y::ins x r else x::y::r)=_
  rw[List.takeWhile_cons]
  cases hb:In.before y.1 x.1 with
  |true=>rw[if_pos rfl,if_pos rfl,ih];rfl
  |false=>rw[if_neg nofun,if_neg nofun];rfl
section
variable {w w' w0:World}
theorem ZT(g q m:Nat):(⟨g,q,none⟩:Addr).add m=⟨g,q+m,none⟩:=by
 unfold Addr.add
 split
 ·rename_i h;subst h;rfl
 ·rfl
theorem uF: ∀ a b:List UInt8,Op.bytesLess a b=bytesBefore a b
 |[],[]=>rfl
 |[],_::_=>rfl
 |_::_,[]=>rfl
 |a::r,b::t=>by
  show(decide (a<b)||(a==b&&Op.bytesLess r t))=(decide (a<b)||(a==b&&bytesBefore r t))
  rw[uF r t]
theorem uG{a b:ByteArray}{v:Bool}(h:In.before a b=v):Op.bytesLess a.toList b.toList=v:=by rw[uF,ByteArray.toList_eq,ByteArray.toList_eq];exact h
theorem sg: ∀ (d:List (ByteArray×Int)) (k:Nat),entC (d.take k)=(entC d).take (k*2)
 |[],k=>by cases k<;> rfl
 |p::r,0=>rfl
 |p::r,k+1=>by
  rw[ldTz]
  unfold entC at*
  rw[laOz,laOz]
  have:=sg r k
  unfold entC at this
  rw[this,show(k+1)*2=k*2+2 by omega]
  rfl
theorem sh: ∀ (d:List (ByteArray×Int)) (k:Nat),entC (d.drop k)=(entC d).drop (k*2)
 |[],k=>by cases k<;> rfl
 |p::r,0=>rfl
 |p::r,k+1=>by
  rw[ldSz,sh r k,show(k+1)*2=k*2+2 by omega]
  unfold entC
  rw[laOz]
  rfl
theorem xT: ∀ d:List (ByteArray×Int),(entC d).all (·.oneCell')=true
 |[]=>rfl
 |p::r=>by
  have:=xT r
  unfold entC at this ⊢
  rw[laOz,ldOz,this]
  rfl
theorem Xc(z:NodV)(h:NmAt z w0)(nm:ByteArray)(id:Int):Calls Tryz.prog 186 #[.agg z.cells.toArray,.agg #[.string nm,.int .i64 id]] w0 (zlB z.1 (ins (nm,id) z.1.names) w0):=by
 have hM:=St.start w0 []
 have hln:=h.len
 have HH:=qh h.has
 have HK:=qh h.ok
 obtain⟨va,vc,hv,hva⟩:=zf h.ok
 clear h
 obtain⟨⟨zi,zd,zl,zh,zb,zn⟩,zp⟩:=z
 unfold NodV.cells
 simp only at hv hva hln ⊢
 rw[hv]
 have HC:=qh (show va=none→zn.length=0∧vc=0 from fun h=>by
  rcases zp with _|⟨g1,cap1⟩
  ·have h1:=HK.out.2
   unfold slV at hv
   injection hv with _ _ h3
   exact⟨h1,h3.symm⟩
  ·obtain⟨h1,-⟩:=hva g1 cap1 rfl
   rw[h1] at h
   cases h)
 have HD:=qh (show ∀ ad,va=some ad→ ∃ g,ad=⟨g,0,none⟩∧ ∀ j u,(entC zn)[j]? =some u→w0.cell? ⟨g,j,none⟩=some u from fun ad h=>by
  rcases zp with _|⟨g1,cap1⟩
  ·unfold slV at hv
   injection hv with h3
   rw[←h3] at h
   cases h
  ·obtain⟨h1,-⟩:=hva g1 cap1 rfl
   rw[h1] at h
   cases h
   exact⟨g1,rfl,fun j u hj=>Res.cell (HH.out (g1,true,.pre (entC zn) 127 (cap1*2)) (.head _)) hj⟩)
 have IS:zn.length≤vc:=by
  rcases zp with _|⟨g1,cap1⟩
  ·have h1:=HK.out.2
   simp only at h1
   omega
  ·obtain⟨-,h2⟩:=hva g1 cap1 rfl
   have:=HK.out.2.1
   rw[h2]
   exact this
 clear hv
 obtain⟨R0,hR0⟩: ∃ R0,(zn.takeWhile fun p=>In.before p.1 nm).length=R0:=⟨_,rfl⟩
 have HR0:=qh hR0
 clear hR0
 go_enter Tryz.func186,Tryz.ntmps186
 try(refine qW ?_;clear hM;intros;rename_i hM)
 ((refine qMk ?_);clear hM;intro w mQ hM)
 try(refine qW ?_;clear hM;intros;rename_i hM)
 ((refine qMk ?_);clear hM;intro w bk_1 hM)
 (repeat(first|(refine qW ?_;intros;rename_i hM)|(refine qMk ?_;clear hM;intro w bk hM)))
 go_loopw [6] (fun i wr=> ∃ k:Nat,k≤zn.length∧i= .int .i64 k∧Hid (k+((zn.drop k).takeWhile fun p=>In.before p.1 nm).length=R0)∧St w0 [] wr [(bk,true,Res.cells [.int .i64 0,.bool false,.int .i64 0,.int .i64 0,.string ⟨#[]⟩,.slice none 0 0] 124),(bk_1,true,Res.cells [.string nm,.int .i64 id] 127),(mQ,true,Res.cells [.int .i64 zi,.bool zd,.int .i64 zl,.int .i64 zh,.string zb,.slice va zn.length vc] 124)]) (fun i _=>zn.length - (intOf i).toNat)
 case atStart=>exact⟨0,by omega,rfl,qh (by rw[ldBz,Nat.zero_add];exact HR0.out),hM⟩
 case round=>
  clear hM
  obtain⟨k,hk,rfl,HF,hM⟩:=hrel
  by_cases hlt:k<zn.length
  ·obtain⟨p,hp⟩:=zK hlt
   have k1:(k:Int)<(zn.length:Int):=by omega
   obtain⟨g1,cap1,rfl⟩: ∃ g1 cap1,zp=some (g1,cap1):=by
    rcases zp with _|⟨g1,cap1⟩
    ·exact absurd HK.out.2 (by simp only;omega)
    ·exact⟨g1,cap1,rfl⟩
   have Bm:=(hva g1 cap1 rfl).1
   have r1:=zaZ HH.out hp
   have c0:w0.cell? ⟨g1,k*2,none⟩=some (.string p.1):=r1 0 _ rfl
   have hd:zn.drop k=p::zn.drop (k+1):=by rw[lbIz hlt,(laHz.1 hp).2]
   have HF':=HF.out
   rw[hd,List.takeWhile_cons] at HF'
   cases he:In.before p.1 nm with
   |true=>
    have q1:=uG he
    rw[he,if_pos rfl,laPz] at HF'
    have HE:=qh (show k+1+((zn.drop (k+1)).takeWhile fun p=>In.before p.1 nm).length=R0 by omega)
    clear HF' HF hd he hp r1
    (repeat(first|(refine qW ?_;intros;rename_i hM)|(refine qMk ?_;clear hM;intro w bk hM)))
    (try simp only[Exit.then])
    (refine⟨?_,qio⟩;repeat(first|exact⟨⟨k+1,by omega,rfl,HE,hM⟩,rfl⟩|apply Exists.intro))
   |false=>
    have q1:=uG he
    rw[he,if_neg nofun,lcGz] at HF'
    have HE:=qh (show k=R0 by omega)
    clear HF' HF hd he hp r1
    (repeat(first|(refine qW ?_;intros;rename_i hM)|(refine qMk ?_;clear hM;intro w bk hM)))
    refine St.slcTo rfl rfl rfl rfl rfl Tryz.underlying122 (sz:=2) (by kernel_rfl) (by omega) ?_
    (refine qq ?_)
    change St w0 [] _ (_::_::_::slL none (entC []) 127 2) at hM
    refine St.appendAny (s:=none) (n:=0) (xs:=[]) (news:=entC (zn.take k)) rfl hM rfl rfl rfl rfl rfl (by kernel_rfl) qsf ⟨rfl,rfl⟩ (fun h=>by have:=HC.out h;omega) (by rw[yN,lbTz];omega) (fun ad h j u hj=>by
     obtain⟨g,rfl,hc⟩:=HD.out ad h
     rw[ZT,Nat.zero_add]
     refine hM.old (hc j u ?_)
     rw[sg,lcKz] at hj
     split at hj
     ·exact hj
     ·cases hj) (xT _) (by rw[zj];omega) (by omega) (fun _=> .inr rfl) ?_
    clear hM;intro w s1 hM hk1 _ _
    simp only[laJz,Nat.zero_add] at hM hk1 ⊢
    have HK1:=qh hk1
    obtain⟨ua,uc,hu,-⟩:=zf hk1
    clear hk1
    rw[hu]
    (refine qq ?_)
    (repeat(first|(refine qW ?_;intros;rename_i hM)|(refine qMk ?_;clear hM;intro w bk hM)))
    rw[←hu]
    refine St.append (s:=s1) (n:=k) (xs:=entC (zn.take k)) rfl hM rfl rfl rfl rfl rfl (by kernel_rfl) qsf HK1.out rfl (hM.news qm) rfl (by rw[zj];omega) (by omega) (fun h=>by cases h) ?_
    clear hM;intro w s2 hM hk2 _
    simp only[Res.known] at hM hk2
    have HK2:=qh hk2
    obtain⟨ub,ud,hu2,-⟩:=zf hk2
    clear hk2
    rw[hu2]
    clear Bm
    (refine qq ?_)
    (repeat(first|(refine qW ?_;intros;rename_i hM)|(refine qMk ?_;clear hM;intro w bk hM)))
    rw[←hu2]
    refine St.appendAny (s:=s2) (n:=k+1) (xs:=entC (zn.take k)++[.string nm,.int .i64 id]) (news:=entC (zn.drop k)) rfl hM rfl rfl rfl rfl rfl (by kernel_rfl) qsf HK2.out (fun h=>by
     have h1:va=none:=by
      split at h
      ·exact h
      ·exact Option.map_eq_none_iff.1 h
     have:=HC.out h1
     omega) (by rw[yN,lbXz]) (fun ad h j u hj=>by
     rw[sh,lcFz] at hj
     have hb:=(laHz.1 hj).1
     rw[yN] at hb
     rw[if_neg (by omega)] at h
     obtain⟨mR,h1,rfl⟩:=Option.map_eq_some_iff.1 h
     obtain⟨g,rfl,hc⟩:=HD.out mR h1
     rw[ZT,ZT,Nat.zero_add]
     exact hM.old (hc _ u hj)) (xT _) (by rw[zj];omega) (by omega) (fun h=>by cases h) ?_
    clear hM;intro w s3 hM aL _ _
    have e1:entC (zn.take k)++[.string nm,.int .i64 id]++entC (zn.drop k)=entC (ins (nm,id) zn):=by
     rw[oX,show(zn.takeWhile fun p=>In.before p.1 (nm,id).1).length=k from HR0.out.trans HE.out.symm]
     unfold entC
     rw[laWz,laOz,lcAz]
    have e2:k+1+(zn.length - k)=(ins (nm,id) zn).length:=by
     rw[oX,show(zn.takeWhile fun p=>In.before p.1 (nm,id).1).length=k from HR0.out.trans HE.out.symm,laNz,laPz,lbTz,lbXz]
     omega
    rw[e1] at hM aL
    rw[e2] at aL
    rw[e2]
    have HK3:=qh aL
    obtain⟨uf,ug,dv,-⟩:=zf aL
    clear aL e1 e2
    rw[dv]
    (refine qq ?_)
    (repeat(first|(refine qW ?_;intros;rename_i hM)|(refine qMk ?_;clear hM;intro w bk hM)))
    (refine qf ?_)
    refine⟨s3, ?_,HK3.out,hM.forget.forget.forget.forget⟩
    unfold NodV.cells
    show _=Ending.returned (.agg #[_,_,_,_,_,slV s3 (ins (nm,id) zn).length])
    rw[dv]
    rfl
  ·have k0:¬((k:Int)<(zn.length:Int)):=by omega
   obtain rfl:k=zn.length:=by omega
   have HF':=HF.out
   rw[lcPz] at HF'
   have HE:=qh (show zn.length=R0 from HF')
   clear hlt hk HF HF'
   (repeat(first|(refine qW ?_;intros;rename_i hM)|(refine qMk ?_;clear hM;intro w bk hM)))
   change St w0 [] _ (_::_::_::slL none (entC []) 127 2) at hM
   refine St.appendAny (s:=none) (n:=0) (xs:=[]) (news:=entC (zn.take zn.length)) rfl hM rfl rfl rfl rfl rfl (by kernel_rfl) qsf ⟨rfl,rfl⟩ (fun h=>by have:=HC.out h;omega) (by rw[yN,lbTz];omega) (fun ad h j u hj=>by
    obtain⟨g,rfl,hc⟩:=HD.out ad h
    rw[ZT,Nat.zero_add]
    refine hM.old (hc j u ?_)
    rw[sg,lcKz] at hj
    split at hj
    ·exact hj
    ·cases hj) (xT _) (by rw[zj];omega) (by omega) (fun _=> .inr rfl) ?_
   clear hM;intro w s1 hM hk1 _ _
   simp only[laJz,Nat.zero_add] at hM hk1 ⊢
   have HK1:=qh hk1
   obtain⟨ua,uc,hu,-⟩:=zf hk1
   clear hk1
   rw[hu]
   (refine qq ?_)
   (repeat(first|(refine qW ?_;intros;rename_i hM)|(refine qMk ?_;clear hM;intro w bk hM)))
   rw[←hu]
   refine St.append (s:=s1) (n:=zn.length) (xs:=entC (zn.take zn.length)) rfl hM rfl rfl rfl rfl rfl (by kernel_rfl) qsf HK1.out rfl (hM.news qm) rfl (by rw[zj];omega) (by omega) (fun h=>by cases h) ?_
   clear hM;intro w s2 hM hk2 _
   simp only[Res.known] at hM hk2
   have HK2:=qh hk2
   obtain⟨ub,ud,hu2,-⟩:=zf hk2
   clear hk2
   rw[hu2]
   (refine qq ?_)
   (repeat(first|(refine qW ?_;intros;rename_i hM)|(refine qMk ?_;clear hM;intro w bk hM)))
   rw[←hu2]
   refine St.appendAny (s:=s2) (n:=zn.length+1) (xs:=entC (zn.take zn.length)++[.string nm,.int .i64 id]) (news:=entC (zn.drop zn.length)) rfl hM rfl rfl rfl rfl rfl (by kernel_rfl) qsf HK2.out (fun h=>by
    have h1:va=none:=by
     split at h
     ·exact h
     ·exact Option.map_eq_none_iff.1 h
    have:=HC.out h1
    omega) (by rw[yN,lbXz];omega) (fun ad h j u hj=>by
    rw[sh,lcFz] at hj
    have hb:=(laHz.1 hj).1
    rw[yN] at hb
    rw[if_neg (by omega)] at h
    obtain⟨mR,h1,rfl⟩:=Option.map_eq_some_iff.1 h
    obtain⟨g,rfl,hc⟩:=HD.out mR h1
    rw[ZT,ZT,Nat.zero_add]
    exact hM.old (hc _ u hj)) (xT _) (by rw[zj];omega) (by omega) (fun h=>by cases h) ?_
   clear hM;intro w s3 hM aL _ _
   have e1:entC (zn.take zn.length)++[.string nm,.int .i64 id]++entC (zn.drop zn.length)=entC (ins (nm,id) zn):=by
    rw[oX,show(zn.takeWhile fun p=>In.before p.1 (nm,id).1).length=zn.length from HR0.out.trans HE.out.symm]
    unfold entC
    rw[laWz,laOz,lcAz]
   have e2:zn.length+1+0=(ins (nm,id) zn).length:=by
    rw[oX,show(zn.takeWhile fun p=>In.before p.1 (nm,id).1).length=zn.length from HR0.out.trans HE.out.symm,laNz,laPz,lbTz,lbXz]
    omega
   rw[e1] at hM aL
   rw[e2] at aL
   rw[e2]
   have HK3:=qh aL
   obtain⟨uf,ug,dv,-⟩:=zf aL
   clear aL e1 e2
   rw[dv]
   (refine qq ?_)
   (repeat(first|(refine qW ?_;intros;rename_i hM)|(refine qMk ?_;clear hM;intro w bk hM)))
   (refine qf ?_)
   refine⟨s3, ?_,HK3.out,hM.forget.forget.forget.forget⟩
   unfold NodV.cells
   show _=Ending.returned (.agg #[_,_,_,_,_,slV s3 (ins (nm,id) zn).length])
   rw[dv]
   rfl
end
end
section
open Go.RowKit Go.Maps
section
variable {w w' w0:World}{zs:List NodV}{x:RX}{q nx:Int}
abbrev Zd(zs:List NodV)(id:Int):Option NodV:=zs.find? fun z=>z.1.id==id
theorem YD(h:RRaw x q nx zs w0){dir:Int}{s:ByteArray}(hf:Zd zs dir=none):An 183 #[.pointer (some ⟨x.g,0,none⟩),.int .i64 dir,.string s] w0 (.tuple #[nodZ,.int .i64 3]):=by
 have hM:=St.start w0 []
 have HC:=qh (show ∀ W,Below w0.heap.size w0 W→An 182 #[.pointer (some ⟨x.g,0,none⟩),.int .i64 dir] W (.tuple #[nodZ,.bool false]) from fun W hb=>by
  have C:=zaa (h.below hb) dir
  rw[show(zs.find? fun z=>z.1.id==dir)=none from hf] at C
  exact C)
 unfold nodZ at HC
 clear h hf
 go_enter Tryz.func183,Tryz.ntmps183
 (refine qw ?_;intros;rename_i hM)
 (refine qCB (HC.out _ hM.to_below) hM ?_;clear hM;intro w' hM)
 exact qwf
def ov(z:NodV)(s:ByteArray):Int:=if z.1.dir then(if In.isName s then 0 else 1) else 12
theorem Yp(h:RRaw x q nx zs w0){dir:Int}{s:ByteArray}(hs:s.size≤1000000000){z:NodV}(hf:Zd zs dir=some z):An 183 #[.pointer (some ⟨x.g,0,none⟩),.int .i64 dir,.string s] w0 (.tuple #[.agg z.cells.toArray,.int .i64 (ov z s)]):=by
 have hM:=St.start w0 []
 have HC:=qh (show ∀ W,Below w0.heap.size w0 W→An 182 #[.pointer (some ⟨x.g,0,none⟩),.int .i64 dir] W (.tuple #[.agg z.cells.toArray,.bool true]) from fun W hb=>by
  have C:=zaa (h.below hb) dir
  rw[show(zs.find? fun z=>z.1.id==dir)=some z from hf] at C
  exact C)
 have HI:=qh (fun W:World=>zfA s W hs)
 obtain⟨va,vc,hv,-⟩:=zf (h.names z (laUz hf))
 clear h hf hs
 obtain⟨⟨zi,zd,zl,zh,zb,zn⟩,zp⟩:=z
 unfold NodV.cells at HC ⊢
 simp only at hv HC ⊢
 rw[hv] at HC ⊢
 clear hv
 unfold ov
 simp only
 cases zd with
 |false=>
  go_enter Tryz.func183,Tryz.ntmps183
  (refine qw ?_;intros;rename_i hM)
  (refine qCB (HC.out _ hM.to_below) hM ?_;clear hM;intro w' hM)
  exact qwf
 |true=>
  cases hN:In.isName s with
  |false=>
   rw[hN] at HI
   clear hN
   go_enter Tryz.func183,Tryz.ntmps183
   (refine qw ?_;intros;rename_i hM)
   (refine qCB (HC.out _ hM.to_below) hM ?_;clear hM;intro w' hM)
   (refine qw ?_;intros;rename_i hM)
   (refine qCB (HI.out _) hM ?_;clear hM;intro w' hM)
   exact qwf
  |true=>
   rw[hN] at HI
   clear hN
   go_enter Tryz.func183,Tryz.ntmps183
   (refine qw ?_;intros;rename_i hM)
   (refine qCB (HC.out _ hM.to_below) hM ?_;clear hM;intro w' hM)
   (refine qw ?_;intros;rename_i hM)
   (refine qCB (HI.out _) hM ?_;clear hM;intro w' hM)
   exact qwf
end
end
section
open Go.RowKit Go.Maps
section
variable {w w' w0:World}{zs:List NodV}{x:RX}{q nx:Int}
def oY(zs:List NodV)(dir:Int)(s:ByteArray):Int×Int:=
 match Zd zs dir with
 |none=>(0,3)
 |some z=>if ov z s=0 then(if In.leads z.1.names s=0 then(0,3) else(In.leads z.1.names s,0)) else(0,ov z s)
theorem Bn(h:RRaw x q nx zs w0)(hl: ∀ z∈zs,z.1.names.length≤1000000){dir:Int}{s:ByteArray}(hs:s.size≤1000000000):An 145 #[.pointer (some ⟨x.g,0,none⟩),.int .i64 dir,.string s] w0 (.tuple #[.int .i64 (oY zs dir s).1,.int .i64 (oY zs dir s).2]):=by
 have hM:=St.start w0 []
 unfold oY
 cases hf:Zd zs dir with
 |none=>
  have HC:=qh (fun (W:World) (hb:Below w0.heap.size w0 W)=>YD (s:=s) (h.below hb) hf)
  unfold nodZ at HC
  clear h hf hs hl
  simp only
  go_enter Tryz.func145,Tryz.ntmps145
  (refine qw ?_;intros;rename_i hM)
  (refine qCB (HC.out _ hM.to_below) hM ?_;clear hM;intro w' hM)
  exact qwf
 |some z=>
  have hz:=laUz hf
  have HC:=qh (fun (W:World) (hb:Below w0.heap.size w0 W)=>Yp (s:=s) (h.below hb) hs hf)
  have gW:=qh (fun (W:World) (hb:Below w0.heap.size w0 W)=>YW z (h.nm hl hz |>.below hb) s)
  obtain⟨va,vc,hv,-⟩:=zf (h.names z hz)
  clear h hf hs hl hz
  simp only
  generalize ov z s=c at*
  generalize In.leads z.1.names s=i at*
  obtain⟨⟨zi,zd,zl,zh,zb,zn⟩,zp⟩:=z
  unfold NodV.cells at HC gW
  simp only at hv HC gW ⊢
  rw[hv] at HC gW
  clear hv
  by_cases hc:c=0
  ·subst hc
   rw[if_pos rfl]
   by_cases hi:i=0
   ·subst hi
    rw[if_pos rfl]
    go_enter Tryz.func145,Tryz.ntmps145
    (refine qw ?_;intros;rename_i hM)
    (refine qCB (HC.out _ hM.to_below) hM ?_;clear hM;intro w' hM)
    (refine qw ?_;intros;rename_i hM)
    (refine qCB (gW.out _ hM.to_below) hM ?_;clear hM;intro w' hM)
    exact qwf
   ·have q1:(i==0)=false:=qne.2 hi
    rw[if_neg hi]
    clear hi
    go_enter Tryz.func145,Tryz.ntmps145
    (refine qw ?_;intros;rename_i hM)
    (refine qCB (HC.out _ hM.to_below) hM ?_;clear hM;intro w' hM)
    (refine qw ?_;intros;rename_i hM)
    (refine qCB (gW.out _ hM.to_below) hM ?_;clear hM;intro w' hM)
    exact qwf
  ·have q1:(c != 0)=true:=bne_iff_ne.2 hc
   rw[if_neg hc]
   clear hc
   go_enter Tryz.func145,Tryz.ntmps145
   (refine qw ?_;intros;rename_i hM)
   (refine qCB (HC.out _ hM.to_below) hM ?_;clear hM;intro w' hM)
   exact qwf
end
end
section
open Go.RowKit Go.Maps
section
variable {w w' w0 w1 w2:World}{F G:List Nat}{L L' M M':List Ent}{zs:List NodV}{x:RX}{q nx:Int}
theorem St.az(h:St w0 F w L)(hs:Swap L M M' L')(h':St w G w' M')(hG: ∀ k∈G,∃ r,(k,true,r)∈M)(gX:Grow w (ze M) (ze M')):St w0 F w' L':=by
 obtain⟨A,B,rfl,rfl⟩:=hs.split
 have hnd:=h.nd
 simp only[laMz,laSz] at hnd
 obtain⟨n1,⟨n2,n3,n4⟩,n5⟩:=hnd
 have uH: ∀ k∈G,k∈ze M:=fun k hk=>by
  obtain⟨r,hr⟩:=hG k hk
  exact laLz (f:=(·.1)) hr
 have hkeep: ∀ x,x∈A∨x∈B→x.1<w.heap.size∧x.1∉ze M:=fun x hx=>by
  refine⟨h.lt (by rcases hx with h|h<;> simp[h]),fun hm=> ?_⟩
  rcases hx with hx|hx
  ·exact n5 x.1 (laLz hx) x.1 (by rw[laAz];exact .inl hm) rfl
  ·exact n4 x.1 hm x.1 (laLz hx) rfl
 refine⟨h.only.then h'.only (fun k hk=> ?_),fun x hx=> ?_, ?_,fun x hx hx1=> ?_⟩
 ·obtain⟨r,hr⟩:=hG k hk
  exact h.own (k,true,r) (by simp[hr]) rfl
 ·simp only[laAz] at hx
  rcases hx with hx|hx|hx
  ·rw[h'.only.block x.1 (hkeep x (.inl hx)).1 (fun hm=>(hkeep x (.inl hx)).2 (uH _ hm))]
   exact h.holds x (by simp[hx])
  ·exact h'.holds x hx
  ·rw[h'.only.block x.1 (hkeep x (.inr hx)).1 (fun hm=>(hkeep x (.inr hx)).2 (uH _ hm))]
   exact h.holds x (by simp[hx])
 ·simp only[laMz,laSz]
  have hne: ∀ x,x∈A∨x∈B→ ∀ y∈M',x.1≠y.1:=fun x hx y hy e=>by
   rcases gX y.1 (laLz hy) with h1|h1
   ·exact(hkeep x hx).2 (e▸h1)
   ·have:=(hkeep x hx).1
    omega
  refine⟨n1,⟨h'.nd,n3,fun a ha b hb=> ?_⟩,fun a ha b hb=> ?_⟩
  ·obtain⟨y,hy,rfl⟩:=laKz.1 ha
   obtain⟨x,hx,rfl⟩:=laKz.1 hb
   exact(hne x (.inr hx) y hy).symm
  ·obtain⟨x,hx,rfl⟩:=laKz.1 ha
   rcases laAz.1 hb with hb|hb
   ·obtain⟨y,hy,rfl⟩:=laKz.1 hb
    exact hne x (.inl hx) y hy
   ·exact n5 x.1 (laLz hx) b (by rw[laAz];exact .inr hb)
 ·simp only[laAz] at hx
  rcases hx with hx|hx|hx
  ·exact h.own x (by simp[hx]) hx1
  ·rcases h'.own x hx hx1 with h1|h1
   ·obtain⟨r,hr⟩:=hG _ h1
    exact h.own (x.1,true,r) (by simp[hr]) rfl
   ·exact .inr (Nat.le_trans h.only.size h1)
  ·exact h.own x (by simp[hx]) hx1
theorem RRaw.of{y:RX}{q' lH:Int}(hA:At (rL y q' lH zs) w)(sl:yV y.s zs)(names: ∀ z∈zs,SlOK z.2 z.1.names.length (entC z.1.names) 2)(len:zs.length≤1000000):RRaw y q' lH zs w:=⟨hA,sl,names,len⟩
theorem RRaw.st(h:RRaw x q nx zs w):St w [x.g] w (rL x q nx zs):=by
 refine⟨Only.refl _ w,h.at_.has,h.at_.nd,fun y hy h1=> ?_⟩
 unfold rL at hy
 rcases laBz.1 hy with rfl|hy
 ·exact .inl (.head _)
 ·obtain⟨z,-,rfl⟩:=laKz.1 hy
  cases h1
theorem RTo.mk'{g:Nat}{s:Option (Nat×Nat)}{K:List Nat}(h:RRaw ⟨g,s⟩ q nx zs w')(ho:Only [g] w0 w')(hg:Grow w0 K (ze (rL ⟨g,s⟩ q nx zs))):RTo g s q nx zs K w0 w':=by
 refine⟨h,⟨ho,h.at_.has,h.at_.nd,fun y hy h1=> ?_⟩,hg⟩
 unfold rL at hy
 rcases laBz.1 hy with rfl|hy
 ·exact .inl (.head _)
 ·obtain⟨z,-,rfl⟩:=laKz.1 hy
  cases h1
theorem RTo.refl(h:RRaw x q nx zs w0):RTo x.g x.s q nx zs (ze (rL x q nx zs)) w0 w0:=RTo.mk' h (Only.refl _ _) (Grow.refl _ _)
theorem RTo.below{g:Nat}{s:Option (Nat×Nat)}{K:List Nat}(h:RTo g s q nx zs K w0 w)(hb:Below w.heap.size w w'):RTo g s q nx zs K w0 w':=
 RTo.mk' (h.raw.below hb) (h.st.only.below (hb.mono h.st.only.size)) h.grow
theorem RTo.trans{g:Nat}{s s':Option (Nat×Nat)}{K:List Nat}{q' lH:Int}{zs':List NodV}(h:RTo g s q nx zs K w0 w1)(h':RTo g s' q' lH zs' (ze (rL ⟨g,s⟩ q nx zs)) w1 w2):RTo g s' q' lH zs' K w0 w2:=
 RTo.mk' h'.raw (h.st.only.trans h'.st.only) (h.grow.trans h'.grow h.st.only.size)
theorem RTo.same(h:RRaw x q nx zs w0)(hb:Below w0.heap.size w0 w'):RTo x.g x.s q nx zs (ze (rL x q nx zs)) w0 w':=(RTo.refl h).below hb
def gf(x:RX)(q nx:Int)(zs:List NodV):List Ent:=rE x q nx zs.length::(nodL x.s zs++(zs.flatMap NodV.ents).map zx)
theorem YY:ze (gf x q nx zs)=ze (rL x q nx zs):=by
 unfold gf rL
 show x.g::ze _=x.g::ze _
 rw[Zp,zF,Zp,zF]
theorem At.gI(h:At (gf x q nx zs) w):At (rL x q nx zs) w:=by
 refine⟨fun y hy=> ?_,by rw[←YY];exact h.nd⟩
 unfold rL at hy
 rcases laBz.1 hy with rfl|hy
 ·exact h.has _ (.head _)
 ·obtain⟨z,hz,rfl⟩:=laKz.1 hy
  rcases laAz.1 hz with hz|hz
  ·exact h.has z (.tail _ (laEz _ hz))
  ·exact h.has (zx z) (.tail _ (laCz _ (laLz hz)))
theorem yd:ze (rL x q nx zs)=x.g::(ze (nodL x.s zs)++ze (zs.flatMap NodV.ents)):=by
 unfold rL
 show x.g::ze _=_
 rw[Zp,zF]
theorem RTo.fin{g:Nat}{s:Option (Nat×Nat)}{K:List Nat}(h:St w0 [g] w' (gf ⟨g,s⟩ q nx zs))(hg:g∈K)(gX:Grow w0 K (ze (zs.flatMap NodV.ents)))(sl:yV s zs)(names: ∀ z∈zs,SlOK z.2 z.1.names.length (entC z.1.names) 2)(len:zs.length≤1000000):RTo g s q nx zs K w0 w':=by
 refine RTo.mk' (RRaw.of (At.gI h.whole) sl names len) h.only fun k hk=> ?_
 rw[yd] at hk
 rcases laBz.1 hk with rfl|hk
 ·exact .inl hg
 ·rcases laAz.1 hk with hk|hk
  ·obtain⟨y,hy,rfl⟩:=laKz.1 hk
   rcases h.own y (.tail _ (laEz _ hy)) (zo _ _ _ _ y hy) with h1|h1
   ·rcases laGz.1 h1 with e
    exact .inl (e▸hg)
   ·exact .inr h1
  ·exact gX k hk
theorem uI(h:RRaw x q nx zs w0)(hid:Ids zs)(z0:NodV)(hz0:SlOK z0.2 z0.1.names.length (entC z0.1.names) 2)(hE:Has z0.ents w0)(h3: ∀ z∈zs,z.1.id≠z0.1.id→ ∀ k∈ze z.ents,k∉ze z0.ents)(hg:x.g∉ze z0.ents):
  Calls Tryz.prog 185 #[.pointer (some ⟨x.g,0,none⟩),.agg z0.cells.toArray] w0 fun e w'=>e= .returned (.tuple #[])∧ ∃ s',yV s' (rset zs z0)∧St w0 [x.g] w' (gf ⟨x.g,s'⟩ q nx (rset zs z0))∧Grow w0 (ze (rL x q nx zs)++ze z0.ents) (ze ((rset zs z0).flatMap NodV.ents)):=by
 refine(zmP h.set0 h.sl h.names h.len z0 hz0).mono ?_
 rintro e w' ⟨rfl,s',hok,hst⟩
 refine⟨rfl,s',hok, ?_,fun k hk=> ?_⟩
 ·have hap:=h.apart
  rw[zF] at hap
  have hA:At ((rset zs z0).flatMap NodV.ents) w0:=⟨fun y hy=>by
   obtain⟨z,hz,lN⟩:=laZz.1 hy
   rcases yU hz with e|⟨hz,-⟩
   ·rw[e] at lN
    exact hE y lN
   ·exact h.ents.has y (laZz.2 ⟨z,hz,lN⟩),zjG h.ents.nd hid h3⟩
  have hj:=hst.join hA (fun k hk hm=>by
   rcases laGz.1 hm with rfl
   obtain⟨z,hz,hk2⟩:=zai hk
   rcases yU hz with e|⟨hz,-⟩
   ·rw[e] at hk2
    exact hg hk2
   ·exact hap (laCz _ (yK hz hk2))) (fun y hy=>by
   rcases laBz.1 hy with rfl|hy
   ·rfl
   ·exact zo _ _ _ _ y hy)
  exact hj
 ·obtain⟨z,hz,hk2⟩:=zai hk
  rcases yU hz with e|⟨hz,-⟩
  ·rw[e] at hk2
   exact .inl (laCz _ hk2)
  ·refine .inl (laEz _ ?_)
   rw[yd]
   exact .tail _ (laCz _ (yK hz hk2))
theorem Bo{z0:NodV}(hA:At (z0.ents++rL x q nx zs) w0)(sl:yV x.s zs)(names: ∀ z∈zs,SlOK z.2 z.1.names.length (entC z.1.names) 2)(len:zs.length≤1000000)(hid:Ids zs)(hz0:SlOK z0.2 z0.1.names.length (entC z0.1.names) 2):
  Calls Tryz.prog 185 #[.pointer (some ⟨x.g,0,none⟩),.agg z0.cells.toArray] w0 fun e w'=>e= .returned (.tuple #[])∧ ∃ s',yV s' (rset zs z0)∧St w0 [x.g] w' (gf ⟨x.g,s'⟩ q nx (rset zs z0))∧Grow w0 (ze (z0.ents++rL x q nx zs)) (ze ((rset zs z0).flatMap NodV.ents)):=by
 have hnd:=hA.nd
 rw[zF] at hnd
 obtain⟨-,-,n3⟩:=laSz.1 hnd
 have hR:RRaw x q nx zs w0:=RRaw.of (hA.sub (laFz _ _)) sl names len
 refine(uI hR hid z0 hz0 (fun y hy=>hA.has y (laEz _ hy)) (fun z hz _ k hk hm=>n3 k hm k ?_ rfl) (fun hm=>n3 _ hm _ ?_ rfl)).mono ?_
 ·rw[yd]
  exact .tail _ (laCz _ (yK hz hk))
 ·rw[yd]
  exact .head _
 ·rintro e w' ⟨rfl,s',a1,a2,a3⟩
  refine⟨rfl,s',a1,a2,fun k hk=> ?_⟩
  rcases a3 k hk with h1|h1
  ·left
   rw[zF]
   rcases laAz.1 h1 with h1|h1
   ·exact laCz _ h1
   ·exact laEz _ h1
  ·exact .inr h1
theorem uJ: ∀ {zs:List NodV},(ze (zs.flatMap NodV.ents)).Nodup→Ids zs→ ∀ {z y:NodV},z∈zs→y∈zs→z.1.id≠y.1.id→ ∀ k∈ze z.ents,k∉ze y.ents
 |[],_,_,_,_,hz,_,_,_,_=>nomatch hz
 |a::r,h1,h2,z,y,hz,hy,hne,k,hk=>by
  rw[laOz,zF] at h1
  obtain⟨a1,a2,a3⟩:=laSz.1 h1
  obtain⟨b1,b2⟩:=laVz.1 h2
  intro hm
  rcases laBz.1 hz with e1|hz2
  ·rcases laBz.1 hy with e2|lN
   ·exact hne (by rw[e1,e2])
   ·rw[e1] at hk
    exact a3 k hk k (yK lN hm) rfl
  ·rcases laBz.1 hy with e2|lN
   ·rw[e2] at hm
    exact a3 k hm k (yK hz2 hk) rfl
   ·exact uJ a2 b2 hz2 lN hne k hk hm
theorem Bp(h:RRaw x q nx zs w0)(hid:Ids zs){z:NodV}(hz:z∈zs)(n:NodeD)(hi:n.id=z.1.id)(hn:n.names=z.1.names):
  Calls Tryz.prog 185 #[.pointer (some ⟨x.g,0,none⟩),.agg (NodV.cells (n,z.2)).toArray] w0 fun e w'=>e= .returned (.tuple #[])∧ ∃ s',yV s' (rset zs (n,z.2))∧St w0 [x.g] w' (gf ⟨x.g,s'⟩ q nx (rset zs (n,z.2)))∧Grow w0 (ze (rL x q nx zs)) (ze ((rset zs (n,z.2)).flatMap NodV.ents)):=by
 have jA:NodV.ents (n,z.2)=z.ents:=by unfold NodV.ents;simp only[hn]
 refine(uI h hid (n,z.2) (by simp only[hn];exact h.names z hz) (by rw[jA];exact fun y hy=>h.ents.has y (laZz.2 ⟨z,hz,hy⟩)) (fun y hy hne k hk=>by rw[jA];exact uJ h.ents.nd hid hy hz (by rw[←hi];exact hne) k hk) (by
  rw[jA]
  intro hm
  refine h.apart ?_
  rw[zF]
  exact laCz _ (yK hz hm))).mono ?_
 rintro e w' ⟨rfl,s',a1,a2,a3⟩
 refine⟨rfl,s',a1,a2,fun k hk=> ?_⟩
 rcases a3 k hk with h1|h1
 ·left
  rcases laAz.1 h1 with h1|h1
  ·exact h1
  ·rw[jA] at h1
   rw[yd]
   exact .tail _ (laCz _ (yK hz h1))
 ·exact .inr h1
structure RP (g:Nat) (s:Option (Nat×Nat)) (q nx:Int) (zs:List NodV) (K:List Nat) (w0:World):Prop where
 sl:yV s zs
 names: ∀ z∈zs,SlOK z.2 z.1.names.length (entC z.1.names) 2
 len:zs.length≤1000000
 grow:Grow w0 K (ze (rL ⟨g,s⟩ q nx zs))
section
variable {g:Nat}{s:Option (Nat×Nat)}{K:List Nat}{L':List Ent→List Ent}{L:List Ent}{z0:NodV}
theorem RP.start(h:RRaw x q nx zs w0):RP x.g x.s q nx zs (ze (rL x q nx zs)) w0:=⟨h.sl,h.names,h.len,Grow.refl _ _⟩
theorem RP.raw(h:RP g s q nx zs K w0)(hA:At (rL ⟨g,s⟩ q nx zs) w):RRaw ⟨g,s⟩ q nx zs w:=⟨hA,h.sl,h.names,h.len⟩
theorem RP.next(h:RP g s q nx zs K w0)(q' lH:Int):RP g s q' lH zs K w0:=⟨h.sl,h.names,h.len,by have:=h.grow;rw[yd] at this ⊢;exact this⟩
theorem RP.to(h:RP g s q nx zs K w0)(hA:At (rL ⟨g,s⟩ q nx zs) w)(ho:Only [g] w0 w):RTo g s q nx zs K w0 w:=RTo.mk' (h.raw hA) ho h.grow
theorem ZR(h:RP g s q nx zs K w0)(hM:St w0 [g] w L)(hs: ∀ M',Swap L (z0.ents++rL ⟨g,s⟩ q nx zs) M' (L' M'))(hid:Ids zs)(hz0:SlOK z0.2 z0.1.names.length (entC z0.1.names) 2):
  Calls Tryz.prog 185 #[.pointer (some ⟨g,0,none⟩),.agg z0.cells.toArray] w fun e w'=>e= .returned (.tuple #[])∧ ∃ s',St w0 [g] w' (L' (gf ⟨g,s'⟩ q nx (rset zs z0)))∧RP g s' q nx (rset zs z0) K w0:=by
 obtain⟨A,B,hL,hL'⟩:=(hs []).split
 have hA:At (z0.ents++rL ⟨g,s⟩ q nx zs) w:=hM.part (by rw[hL];exact Part.past Part.here)
 have hfr: ∀ k∈ze z0.ents,w0.heap.size≤k:=fun k hk=>by
  obtain⟨y,hy,rfl⟩:=laKz.1 hk
  rcases hM.own y (by rw[hL];simp[hy]) (zo _ _ _ _ y hy) with h1|h1
  ·rcases laGz.1 h1 with e
   have hnd:=hA.nd
   rw[zF] at hnd
   exact absurd e ((laSz.1 hnd).2.2 _ hk g (by rw[yd];exact .head _))
  ·exact h1
 refine(Bo hA h.sl h.names h.len hid hz0).mono ?_
 rintro e w' ⟨rfl,s',a1,a2,a3⟩
 have hge: ∃ r,(g,true,r)∈z0.ents++rL ⟨g,s⟩ q nx zs:=⟨_,laCz _ (by unfold rL rE;exact .head _)⟩
 have gX:Grow w (ze (z0.ents++rL ⟨g,s⟩ q nx zs)) (ze (gf ⟨g,s'⟩ q nx (rset zs z0))):=fun k hk=>by
  rw[YY,yd] at hk
  rcases laBz.1 hk with rfl|hk
  ·left
   obtain⟨r,hr⟩:=hge
   exact laLz (f:=(·.1)) hr
  ·rcases laAz.1 hk with hk|hk
   ·obtain⟨y,hy,rfl⟩:=laKz.1 hk
    rcases a2.own y (.tail _ (laEz _ hy)) (zo _ _ _ _ y hy) with h1|h1
    ·rcases laGz.1 h1 with e
     left
     obtain⟨r,hr⟩:=hge
     rw[show y.1=g from e]
     exact laLz (f:=(·.1)) hr
    ·exact .inr h1
   ·exact a3 k hk
 refine⟨rfl,s', ?_,a1,fun z hz=> ?_,Nat.le_trans (zaf _ _) h.len,fun k hk=> ?_⟩
 ·exact hM.az (hs _) a2 (fun k hk=>by rcases laGz.1 hk with rfl;exact hge) gX
 ·rcases yU hz with rfl|⟨hz,-⟩
  ·exact hz0
  ·exact h.names z hz
 ·rw[←YY] at hk
  rcases gX k hk with h1|h1
  ·rw[zF] at h1
   rcases laAz.1 h1 with h1|h1
   ·exact .inr (hfr k h1)
   ·exact h.grow k h1
  ·exact .inr (Nat.le_trans hM.only.size h1)
theorem yq(h:RP g s q nx zs K w0)(hM:St w0 [g] w L)(hs: ∀ M',Swap L (rL ⟨g,s⟩ q nx zs) M' (L' M'))(hid:Ids zs){z:NodV}(hz:z∈zs){n:NodeD}(hi:n.id=z.1.id)(hn:n.names=z.1.names):
  Calls Tryz.prog 185 #[.pointer (some ⟨g,0,none⟩),.agg (NodV.cells (n,z.2)).toArray] w fun e w'=>e= .returned (.tuple #[])∧ ∃ s',St w0 [g] w' (L' (gf ⟨g,s'⟩ q nx (rset zs (n,z.2))))∧RP g s' q nx (rset zs (n,z.2)) K w0:=by
 obtain⟨A,B,hL,hL'⟩:=(hs []).split
 have hA:At (rL ⟨g,s⟩ q nx zs) w:=hM.part (by rw[hL];exact Part.past Part.here)
 refine(Bp (h.raw hA) hid hz n hi hn).mono ?_
 rintro e w' ⟨rfl,s',a1,a2,a3⟩
 have hge: ∃ r,(g,true,r)∈rL ⟨g,s⟩ q nx zs:=⟨_,by unfold rL rE;exact .head _⟩
 have gX:Grow w (ze (rL ⟨g,s⟩ q nx zs)) (ze (gf ⟨g,s'⟩ q nx (rset zs (n,z.2)))):=fun k hk=>by
  rw[YY,yd] at hk
  rcases laBz.1 hk with rfl|hk
  ·left
   obtain⟨r,hr⟩:=hge
   exact laLz (f:=(·.1)) hr
  ·rcases laAz.1 hk with hk|hk
   ·obtain⟨y,hy,rfl⟩:=laKz.1 hk
    rcases a2.own y (.tail _ (laEz _ hy)) (zo _ _ _ _ y hy) with h1|h1
    ·rcases laGz.1 h1 with e
     left
     obtain⟨r,hr⟩:=hge
     rw[show y.1=g from e]
     exact laLz (f:=(·.1)) hr
    ·exact .inr h1
   ·exact a3 k hk
 refine⟨rfl,s', ?_,a1,fun y hy=> ?_,Nat.le_trans (zaf _ _) h.len,fun k hk=> ?_⟩
 ·exact hM.az (hs _) a2 (fun k hk=>by rcases laGz.1 hk with rfl;exact hge) gX
 ·rcases yU hy with rfl|⟨hy,-⟩
  ·simp only[hn]
   exact h.names z hz
  ·exact h.names y hy
 ·rw[←YY] at hk
  rcases gX k hk with h1|h1
  ·exact h.grow k h1
  ·exact .inr (Nat.le_trans hM.only.size h1)
theorem St.gI(h:St w0 F w L)(hs:Swap L (gf ⟨g,s⟩ q nx zs) (rL ⟨g,s⟩ q nx zs) M):St w0 F w M:=by
 obtain⟨A,B,rfl,rfl⟩:=hs.split
 have hA:At (rL ⟨g,s⟩ q nx zs) w:=At.gI (h.part (Part.past Part.here))
 refine⟨h.only,fun y hy=> ?_, ?_,fun y hy h1=> ?_⟩
 ·simp only[laAz] at hy
  rcases hy with hy|hy|hy
  ·exact h.holds y (by simp[hy])
  ·exact hA.has y hy
  ·exact h.holds y (by simp[hy])
 ·have:=h.nd
  change (ze _).Nodup at this
  rw[zF,zF,YY] at this
  show(ze _).Nodup
  rw[zF,zF]
  exact this
 ·simp only[laAz] at hy
  rcases hy with hy|hy|hy
  ·exact h.own y (by simp[hy]) h1
  ·unfold rL at hy
   rcases laBz.1 hy with rfl|hy
   ·exact h.own (rE ⟨g,s⟩ q nx zs.length) (by unfold gf;simp) rfl
   ·obtain⟨z,-,rfl⟩:=laKz.1 hy
    cases h1
  ·exact h.own y (by simp[hy]) h1
end
/-! ### as a plain table -/
theorem yM(z0:NodV){zs:List NodV}(h:Ids zs):Ids (rset zs z0):=by
 induction zs with
 |nil=>exact List.Pairwise.nil
 |cons z r ih=>
  obtain⟨b1,b2⟩:=laVz.1 h
  have i2:=ih b2
  have hr:rset (z::r) z0=(if z.1.id=z0.1.id then(if 0<z0.1.links∨0<z0.1.holds then [z0] else []) else [z])++rset r z0:=by unfold rset;rw[laOz]
  rw[hr]
  by_cases he:z.1.id=z0.1.id
  ·rw[if_pos he]
   split
   ·refine laVz.2 ⟨fun y hy=> ?_,i2⟩
    rcases yU hy with rfl|⟨hy,hne⟩
    ·exfalso
     rw[zcL (fun y hy e=>b1 y hy (he.trans e.symm))] at hy
     exact b1 _ hy he
    ·exact fun e=>hne e.symm
   ·exact i2
  ·rw[if_neg he]
   refine laVz.2 ⟨fun y hy=> ?_,i2⟩
   rcases yU hy with rfl|⟨hy,hne⟩
   ·exact he
   ·exact b1 y hy
def In.bt(l:List NodeD)(n:NodeD):List NodeD:=if 0<n.links∨0<n.holds then In.set l n else In.del l n.id
theorem zU(zs:List NodV)(z0:NodV):(rset zs z0).map (·.1)=In.bt (zs.map (·.1)) z0.1:=zcs z0 zs
theorem Yk(id:Int): ∀ zs:List NodV,In.find (zs.map (·.1)) id=(Zd zs id).map (·.1)
 |[]=>rfl
 |z::r=>by
  have ih:=Yk id r
  unfold In.find Zd at ih ⊢
  rw[laDz,lbGz,lbGz,ih]
  cases z.1.id==id<;> rfl
theorem zu{zs:List NodV}{id:Int}{z:NodV}(h:Zd zs id=some z):z∈zs∧z.1.id=id:=⟨laUz h,by have:=lcOz h;simpa using this⟩
theorem Bq{zs:List NodV}(h:In.asc (zs.map (·.1))):Ids zs:=by
 unfold In.asc at h
 rw[lcJz] at h
 exact h.imp fun h=>by omega
structure bR (x:RX) (t:TabD) (zs:List NodV) (w:World):Prop where
 raw:RRaw x t.quota (t.last+1) zs w
 nodes:zs.map (·.1)=t.nodes
def cA(x:RX)(t:TabD)(zs:List NodV)(t':TabD)(w w':World):Prop:= ∃ s' zs',zs'.map (·.1)=t'.nodes∧RTo x.g s' t'.quota (t'.last+1) zs' (ze (rL x t.quota (t.last+1) zs)) w w'
theorem bR.below{t:TabD}(h:bR x t zs w)(hb:Below w.heap.size w w'):bR x t zs w':=⟨h.raw.below hb,h.nodes⟩
theorem cA.same{t:TabD}(h:bR x t zs w)(hb:Below w.heap.size w w'):cA x t zs t w w':=⟨x.s,zs,h.nodes,RTo.same h.raw hb⟩
section
variable {t:TabD}{N:Nat}
theorem bR.ids(h:bR x t zs w)(I:In.Inv N t):Ids zs:=Bq (by rw[h.nodes];exact I.asc)
theorem bR.mem(h:bR x t zs w){z:NodV}(hz:z∈zs):z.1∈t.nodes:=by rw[←h.nodes];exact laLz hz
theorem bR.find(h:bR x t zs w)(id:Int):In.find t.nodes id=(Zd zs id).map (·.1):=by rw[←h.nodes];exact Yk id zs
theorem q8{l:List NodeD}{n:NodeD}(h:n∈l):n.names.length≤In.tot l:=In.le_sum (f:=fun n=>n.names.length) h
theorem bR.nl(h:bR x t zs w)(I:In.Inv N t)(hN:N≤900000): ∀ z∈zs,z.1.names.length≤1000000:=fun z hz=>by
 have:=q8 (h.mem hz)
 have:=I.tot
 omega
theorem bR.dl(h:bR x t zs w)(I:In.Inv N t): ∀ z∈zs,z.1.data.size≤1048576:=fun z hz=>I.data _ (h.mem hz)
theorem bR.sum(h:bR x t zs w)(I:In.Inv N t):((In.sum (zs.map (·.1)):Nat):Int)=t.used:=by rw[h.nodes,I.used]
end
end
end
section
open Go.RowKit Go.Maps
namespace In
theorem ZY{l:List NodeD}{n:NodeD}(h:0<n.links∨0<n.holds):bt l n=set l n:=by unfold bt;rw[if_pos h]
theorem Br{l:List NodeD}{n:NodeD}(h:¬(0<n.links∨0<n.holds)):bt l n=del l n.id:=by unfold bt;rw[if_neg h]
theorem uK(n:NodeD): ∀ l:List NodeD,del (set l n) n.id=del l n.id
 |[]=>rfl
 |m::r=>by
  have ih:=uK n r
  unfold del set at ih ⊢
  rw[laDz,lbNz,lbNz,ih]
  by_cases h:m.id=n.id
  ·simp[h]
  ·simp[h]
section
variable {t:TabD}{N:Nat}
theorem uL{δ:Int→Int}{x:Int}(I:InvD δ x N t){d:NodeD}(hd:d∈t.nodes){s:ByteArray}(hl:leads d.names s=0)(id:Int):ins (s,id) d.names=with_ d.names s id:=by
 have h1:=yI (YH I hd) hl
 unfold with_
 rw[yS h1]
 refine uE fun p hp=> ?_
 cases hs:same p.1 s with
 |false=>rfl
 |true=>exact absurd ⟨p,hp,hs⟩ h1
theorem gh(I:Inv N t){dir:Int}{d:NodeD}(hd:find t.nodes dir=some d){s:ByteArray}(hl:leads d.names s=0)(id:Int):bt t.nodes (d.setNames (ins (s,id) d.names))=(nameIn t dir s id).nodes:=by
 rw[uL I (find_some hd).1 hl]
 have ha:=(I.alive d (find_some hd).1 (by have:=(I.pos d (find_some hd).1).1;omega)).1
 unfold nameIn
 rw[at_some hd]
 exact ZY ha
theorem bh(I:Inv N t){dir:Int}{d:NodeD}(hd:find t.nodes dir=some d)(s:ByteArray):bt t.nodes (d.setNames (without d.names s))=(nameOut t dir s).nodes:=by
 have ha:=(I.alive d (find_some hd).1 (by have:=(I.pos d (find_some hd).1).1;omega)).1
 unfold nameOut
 rw[at_some hd]
 exact ZY ha
theorem iT{dir:Int}{n:NodeD}(hn:find t.nodes dir=some n)(h0:0≤n.links):bt t.nodes (n.setLinks (n.links+1))=(linksUp t dir).nodes:=by
 unfold linksUp
 rw[at_some hn]
 exact ZY (.inl (show 0<n.links+1 by omega))
theorem iU{dir:Int}{n:NodeD}(hn:find t.nodes dir=some n)(h0:0≤n.holds):bt t.nodes (n.setHolds (n.holds+1))=(holdsUp t dir).nodes:=by
 unfold holdsUp
 rw[at_some hn]
 exact ZY (.inr (show 0<n.holds+1 by omega))
theorem gi{n:NodeD}{k:Int}{o:NodeD}(ho:find t.nodes k=some o)(hk:n.id=k)(hl:0≤n.links)(hh:0≤n.holds):bt t.nodes n=(gone (setN t n) k).nodes:=by
 have hf:find (setN t n).nodes k=some n:=by rw[ym ho hk,if_pos rfl]
 unfold gone
 rw[at_some hf]
 by_cases h:0<n.links∨0<n.holds
 ·rw[ZY h]
  have:(n.links==0&&n.holds==0)=false:=by
   rw[Bool.and_eq_false_iff]
   rcases h with h|h
   ·left;rw[beq_eq_false_iff_ne];omega
   ·right;rw[beq_eq_false_iff_ne];omega
  rw[this,if_neg nofun]
  rfl
 ·rw[Br h]
  have:(n.links==0&&n.holds==0)=true:=by
   rw[Bool.and_eq_true,beq_iff_eq,beq_iff_eq]
   omega
  rw[this,if_pos rfl]
  show del t.nodes n.id=del (set t.nodes n) k
  rw[←hk,uK]
theorem dy(I:Inv N t){dir:Int}{d:NodeD}(hd:find t.nodes dir=some d){s:ByteArray}{k:Int}(hk:leads d.names s=k){n o:NodeD}(hn:find t.nodes k=some o)(hne:k≠dir)(hno:n=o.setLinks (o.links - 1))(hl:0≤n.links):bt (nameOut t dir s).nodes n=(loses t dir s).nodes:=by
 have om:=(find_some hn).1
 have hf:find (nameOut t dir s).nodes k=some o:=by rw[ZC hd,if_neg hne];exact hn
 have hh:=(I.holds o om).1
 unfold loses linksDown
 rw[at_some hd,hk,at_some hf,←hno]
 exact gi hf (by rw[hno];exact(find_some hn).2) hl (by rw[hno];exact hh)
theorem gj(I:Inv N t){dir:Int}{d:NodeD}(hd:find t.nodes dir=some d)(hdd:d.dir=true){s:ByteArray}(hl:leads d.names s≠0){o:NodeD}(ho:find t.nodes (leads d.names s)=some o)(hod:o.dir=false):1≤o.links:=by
 obtain⟨om,oi⟩:=find_some ho
 obtain⟨dm,di⟩:=find_some hd
 have h1:=I.links o om
 have h2:1≤cnt t.nodes o.id:=by
  have:cntN d.names o.id≤cnt t.nodes o.id:=le_sum (f:=fun n=>cntN n.names o.id) dm
  have h3:0<cntN d.names o.id:=by
   unfold cntN
   rw[ldAz]
   exact⟨_,leads_some hl,by simp[oi]⟩
  omega
 have h3:(0:Int)≤rootI o.id:=by unfold rootI;split<;> omega
 omega
theorem iV(id:Int):(gone t id).quota=t.quota∧(gone t id).last=t.last:=by unfold gone;split<;> exact⟨rfl,rfl⟩
theorem dg(dir:Int)(s:ByteArray):(loses t dir s).quota=t.quota∧(loses t dir s).last=t.last:=by
 unfold loses
 obtain⟨h1,h2⟩:=iV (t:=linksDown (nameOut t dir s) (leads (at_ t dir).names s)) (leads (at_ t dir).names s)
 exact⟨h1,h2⟩
end
end In
end
section
open Go.RowKit Go.Maps
namespace In
section
variable {t:TabD}
theorem bu{dir:Int}{s:ByteArray}(h:find t.nodes dir=none):placeE t dir s=3:=by unfold placeE getE;rw[h];rfl
theorem gY{dir:Int}{s:ByteArray}{d:NodeD}(h:find t.nodes dir=some d):placeE t dir s=if d.dir then(if isName s then 0 else 1) else 12:=by
 unfold placeE getE
 rw[h]
 cases hd:d.dir<;> simp[hd]
theorem jV{dir:Int}{s:ByteArray}{b:Bool}(h:find t.nodes dir=none):make t dir s b=(0,3,t):=by
 unfold make makeE emptyE
 rw[bu h]
 rfl
theorem kE{dir:Int}{s:ByteArray}{b:Bool}(h:placeE t dir s≠0):make t dir s b=(0,placeE t dir s,t):=by
 have q:(placeE t dir s==0)=false:=qne.2 h
 unfold make makeE emptyE
 simp[q]
theorem kF{dir:Int}{s:ByteArray}{b:Bool}{d:NodeD}(hd:find t.nodes dir=some d)(h:placeE t dir s=0)(hl:leads d.names s≠0):make t dir s b=(0,4,t):=by
 have q:(leads d.names s==0)=false:=qne.2 hl
 unfold make makeE emptyE
 simp[h,at_some hd,q]
theorem jW{dir:Int}{s:ByteArray}{b:Bool}{d:NodeD}(hd:find t.nodes dir=some d)(h:placeE t dir s=0)(hl:leads d.names s=0)(h2:4096≤t.nodes.length):make t dir s b=(0,5,t):=by
 have q:(4096:Int)≤(t.nodes.length:Int):=by omega
 unfold make makeE emptyE
 simp[h,at_some hd,hl,q]
theorem iW{dir:Int}{s:ByteArray}{b:Bool}{d:NodeD}(hd:find t.nodes dir=some d)(h:placeE t dir s=0)(hl:leads d.names s=0)(h2:¬4096≤t.nodes.length)(h3:t.quota - t.used<64):make t dir s b=(0,6,t):=by
 have q:¬(4096:Int)≤(t.nodes.length:Int):=by omega
 unfold make makeE emptyE
 simp[h,at_some hd,hl,q,h3]
theorem kG{dir:Int}{s:ByteArray}{b:Bool}{d:NodeD}(hd:find t.nodes dir=some d)(h:placeE t dir s=0)(hl:leads d.names s=0)(h2:¬4096≤t.nodes.length)(h3:¬t.quota - t.used<64):make t dir s b=(t.last+1,0,makeT t dir s b):=by
 have q:¬(4096:Int)≤(t.nodes.length:Int):=by omega
 unfold make makeE emptyE
 simp[h,at_some hd,hl,q,h3]
end
end In
section
variable {w w' w0:World}{F:List Nat}{L M:List Ent}{zs:List NodV}{x:RX}{t:TabD}{N:Nat}{q nx:Int}
theorem Bs{va:Option Addr}{vc:Nat}(hv:slV x.s zs.length= .slice va zs.length vc)(q nx:Int):rL x q nx zs=(x.g,true,.cells [.int .i64 q,.int .i64 nx,.slice va zs.length vc] 146)::(nodL x.s zs++zs.flatMap NodV.ents).map zx:=by unfold rL rE;rw[hv]
theorem XR{x:RX}{t:TabD}{zs:List NodV}{w0:World}(h:bR x t zs w0): ∃ g xs va vc U,x=⟨g,xs⟩∧slV xs zs.length= .slice va zs.length vc∧(nodL xs zs++zs.flatMap NodV.ents).map zx=U∧St w0 [g] w0 ((g,true,Res.cells [.int .i64 t.quota,.int .i64 (t.last+1),.slice va zs.length vc] 146)::U)∧Hid (RP g xs t.quota (t.last+1) zs (ze (rL ⟨g,xs⟩ t.quota (t.last+1) zs)) w0)∧
  Hid (∀ nx,rL ⟨g,xs⟩ t.quota nx zs=((g,true,Res.cells [.int .i64 t.quota,.int .i64 (nx),.slice va zs.length vc] 146)::U))∧Hid (∀ W:World,At ((g,true,Res.cells [.int .i64 t.quota,.int .i64 (t.last+1),.slice va zs.length vc] 146)::U) W→bR ⟨g,xs⟩ t zs W)∧Hid (∀ W:World,At ((g,true,Res.cells [.int .i64 t.quota,.int .i64 (t.last+1),.slice va zs.length vc] 146)::U) W→Only [g] w0 W→cA ⟨g,xs⟩ t zs t w0 W):=by
 obtain⟨g,xs⟩:=x
 obtain⟨va,vc,hv,-⟩:=zf h.raw.sl
 have dZ:=fun nx=>Bs (x:=⟨g,xs⟩) (zs:=zs) hv t.quota nx
 have hM:St w0 [g] w0 (rL ⟨g,xs⟩ t.quota (t.last+1) zs):=h.raw.st
 have dX:=RP.start h.raw
 rw[dZ] at hM
 exact⟨g,xs,va,vc,_,rfl,hv,rfl,hM,qh dX,qh dZ,qh fun W hA=>⟨RRaw.of (by rw[dZ];exact hA) h.raw.sl h.raw.names h.raw.len,h.nodes⟩,qh fun W hA ho=>⟨xs,zs,h.nodes,dX.to (by rw[dZ];exact hA) ho⟩⟩
theorem NodV.open{z:NodV}{wa:Option Addr}{wc:Nat}(h:slV z.2 z.1.names.length= .slice wa z.1.names.length wc):z.cells=[.int .i64 z.1.id,.bool z.1.dir,.int .i64 z.1.links,.int .i64 z.1.holds,.string z.1.data,.slice wa z.1.names.length wc]:=by unfold NodV.cells;rw[h]
theorem XW(h:bR x t zs w){dir:Int}{z:NodV}(hf:Zd zs dir=some z)(s:ByteArray):ov z s=In.placeE t dir s:=by
 rw[In.gY (d:=z.1) (by rw[h.find dir,hf];rfl)]
 rfl
theorem si(h:bR x t zs w0)(I:In.Inv N t)(hN:N≤900000)(dir:Int)(s:ByteArray)(isDir:Bool)(hs:s.size≤1000000000):
  Calls Tryz.prog 141 #[.pointer (some ⟨x.g,0,none⟩),.int .i64 dir,.string s,.bool isDir] w0 fun e w'=>e= .returned (.tuple #[.int .i64 (In.make t dir s isDir).1,.int .i64 (In.make t dir s isDir).2.1])∧cA x t zs (In.make t dir s isDir).2.2 w0 w':=by
 cases hf:Zd zs dir with
 |none=>
  have hM:=St.start w0 []
  have HC:=qh (fun (W:World) (hb:Below w0.heap.size w0 W)=>YD (s:=s) (h.raw.below hb) hf)
  unfold nodZ at HC
  have HR:=qh (fun (W:World) (hb:Below w0.heap.size w0 W)=>cA.same h hb)
  rw[In.jV (by rw[h.find dir,hf];rfl)]
  clear h hf hs I
  simp only
  go_enter Tryz.func141,Tryz.ntmps141
  (refine qw ?_;intros;rename_i hM)
  (refine qCB (HC.out _ hM.to_below) hM ?_;clear hM;intro w' hM)
  (refine qw ?_;intros;rename_i hM)
  (refine qf ?_)
  exact⟨rfl,HR.out _ hM.to_below⟩
 |some z=>
  have hz:=(zu hf).1
  have hd:In.find t.nodes dir=some z.1:=by rw[h.find dir,hf];rfl
  (obtain⟨g,xs,va,vc,U,rfl,hv,hU,hM,dX,dZ,bW,HB⟩:=XR h)
  obtain⟨wa,wc,hwv,-⟩:=zf (h.raw.names z hz)
  have HP:=qh (fun (W:World) (hA:At ((g,true,Res.cells [.int .i64 t.quota,.int .i64 (t.last+1),.slice va zs.length vc] 146)::U) W)=>Yp (s:=s) (bW.out W hA).raw hs hf)
  have gW:=qh (fun (W:World) (hA:At ((g,true,Res.cells [.int .i64 t.quota,.int .i64 (t.last+1),.slice va zs.length vc] 146)::U) W)=>YW z ((bW.out W hA).raw.nm (h.nl I hN) hz) s)
  have oZ:=qh (fun (W:World) (hA:At ((g,true,Res.cells [.int .i64 t.quota,.int .i64 (t.last+1+1),.slice va zs.length vc] 146)::U) W)=>Xc z (((dX.out.next t.quota (t.last+1+1)).raw (by rw[dZ.out];exact hA)).nm (h.nl I hN) hz) s (t.last+1))
  have o0:=qh (fun (W:World) (hA:At ((g,true,Res.cells [.int .i64 t.quota,.int .i64 (t.last+1),.slice va zs.length vc] 146)::U) W)=>zal (bW.out W hA).raw (h.dl I))
  rw[h.sum I] at o0
  rw[NodV.open hwv] at HP gW oZ
  rw[XW h hf s] at HP
  have IT:=I.q1
  have IU:=I.q0
  have hlast:=I.last
  have uM:=I.cap
  have hu0:0≤t.used:=by rw[I.used];exact Int.natCast_nonneg _
  have hlen:=h.raw.len
  have sj:=qh (show zs.length=t.nodes.length by rw[←h.nodes,lbMz])
  (have HH:=qh h;have HI:=qh I;clear h I hv hU)
  generalize hc:In.placeE t dir s=c at HP
  generalize hi:In.leads z.1.names s=i at gW
  go_enter Tryz.func141,Tryz.ntmps141
  (refine qw ?_;intros;rename_i hM)
  (refine qCB (HP.out _ (hM.part qpt)) hM ?_;clear hM;intro w' hM)
  (refine qw ?_;intros;rename_i hM)
  by_cases hc0:c=0
  ·subst hc0
   (refine qw ?_;intros;rename_i hM)
   (refine qCB (gW.out _ (hM.part qpt)) hM ?_;clear hM;intro w' hM)
   have o6:i=0∨0<i:=by
    rw[←hi]
    by_cases h0:In.leads z.1.names s=0
    ·exact .inl h0
    ·right
     obtain⟨n,hn⟩:=HI.out.leads _ (In.find_some hd).1 _ (In.leads_some h0)
     obtain⟨n1,n2⟩:=In.find_some hn
     have:=(HI.out.pos n n1).1
     simp only at n2
     omega
   rcases o6 with hi0|hi0
   ·subst hi0
    by_cases h4:4096≤zs.length
    ·have k4:(4096:Int)≤(zs.length:Int):=by omega
     have HE:=qh (In.jW (b:=isDir) hd hc hi (by rw[←sj.out];exact h4))
     clear hc hi h4
     (refine qw ?_;intros;rename_i hM)
     ((refine qf ?_);(rw[HE.out]);exact⟨rfl,HB.out _ (hM.part qpt) hM.only⟩)
    ·have k4:decide ((4096:Int)≤(zs.length:Int))=false:=decide_eq_false (by omega)
     have Bt:=qh (show zs.length<4096 by omega)
     have Bu:IntKind.i64.wrap (t.used+64)=t.used+64:=Za _ (by omega)
     by_cases h6:t.quota - t.used<64
     ·have HE:=qh (In.iW (b:=isDir) hd hc hi (by rw[←sj.out];exact h4) h6)
      have k6:t.quota<t.used+64:=by omega
      clear hc hi h4 h6
      (refine qw ?_;intros;rename_i hM)
      (refine qCB (o0.out _ (hM.part qpt)) hM ?_;clear hM;intro w' hM)
      (refine qw ?_;intros;rename_i hM)
      ((refine qf ?_);(rw[HE.out]);exact⟨rfl,HB.out _ (hM.part qpt) hM.only⟩)
     ·have HE:=qh (In.kG (b:=isDir) hd hc hi (by rw[←sj.out];exact h4) h6)
      have k6:decide (t.quota<t.used+64)=false:=decide_eq_false (by omega)
      have iX:IntKind.i64.wrap (t.last+1+1)=t.last+1+1:=Za _ (by omega)
      have hi':=hi
      clear hc hi h4 h6
      (refine qw ?_;intros;rename_i hM)
      (refine qCB (o0.out _ (hM.part qpt)) hM ?_;clear hM;intro w' hM)
      (refine qw ?_;intros;rename_i hM)
      (refine qK3 (fun R hR=> ?_))
      refine(oZ.out _ (hM.part qpt)).mono ?_
      rintro e w' ⟨p',rfl,hok,hst⟩;refine hR.out _ _ ?_;clear hR R
      replace hM:=hM.madeM hst (zo _ _ _ _)
      clear hst
      rw[←dZ.out] at hM
      replace hM:=(St.perm hM lcMz).forget
      (refine qq ?_)
      (refine qw ?_;intros;rename_i hM)
      (refine qK3 (fun R hR=> ?_))
      have hp:RP g xs t.quota (t.last+1+1) zs (ze (rL ⟨g,xs⟩ t.quota (t.last+1) zs)) w0:=dX.out.next _ _
      refine(ZR hp hM qsf (HH.out.ids HI.out) hok).mono ?_
      rintro e w' ⟨rfl,s1,bm,kq⟩;refine hR.out _ _ ?_;clear hR R hM
      have hM:=bm
      clear bm
      obtain⟨vb,vd,uN,-⟩:=zf kq.sl
      have hl1:=zaf ((z.1.setNames (ins (s,t.last+1) z.1.names),p'):NodV) zs
      have gQ:=qh (zU zs ((z.1.setNames (ins (s,t.last+1) z.1.names),p'):NodV))
      unfold gf rE at hM
      simp only at hM
      rw[uN] at hM
      generalize rset zs ((z.1.setNames (ins (s,t.last+1) z.1.names),p'):NodV)=fV at*
      (refine qq ?_)
      (refine qw ?_;intros;rename_i hM)
      rw[←uN]
      refine St.append (s:=s1) (n:=fV.length) (xs:=fV.flatMap NodV.cells) rfl hM rfl rfl rfl rfl rfl (by kernel_rfl) qsf kq.sl rfl (hM.news qm) rfl (by rw[zj];omega) (by omega) (fun h=>by cases h) ?_
      clear hM;intro w s2 hM hk2 _
      have e1:fV.flatMap NodV.cells++[.int .i64 (t.last+1),.bool isDir,.int .i64 1,.int .i64 0,.string ⟨#[]⟩,.slice none 0 0]=(fV++[((⟨t.last+1,isDir,1,0,ByteArray.empty,[]⟩,none):NodV)]).flatMap NodV.cells:=by rw[←Xd];rfl
      have e2:fV.length+1=(fV++[((⟨t.last+1,isDir,1,0,ByteArray.empty,[]⟩,none):NodV)]).length:=by simp
      have e3:(fV++[((⟨t.last+1,isDir,1,0,ByteArray.empty,[]⟩,none):NodV)]).flatMap NodV.ents=fV.flatMap NodV.ents:=by rw[laWz,lbUz];exact laYz _
      simp only[Res.known] at hM hk2
      rw[e1] at hM hk2
      rw[e2] at hk2
      rw[e2]
      have ox:=qh (show ∀ y∈fV++[((⟨t.last+1,isDir,1,0,ByteArray.empty,[]⟩,none):NodV)],SlOK y.2 y.1.names.length (entC y.1.names) 2 from fun y hy=>by
       rcases laAz.1 hy with hy|hy
       ·exact kq.names y hy
       ·rcases laGz.1 hy with rfl
        exact⟨rfl,rfl⟩)
      have sk:=qh (show(fV++[((⟨t.last+1,isDir,1,0,ByteArray.empty,[]⟩,none):NodV)]).length≤1000000 by have:=Bt.out;rw[←e2];omega)
      have kH:=qh (show(fV++[((⟨t.last+1,isDir,1,0,ByteArray.empty,[]⟩,none):NodV)]).map (·.1)=(In.makeT t dir s isDir).nodes by
       rw[laMz,gQ.out,HH.out.nodes]
       show In.bt t.nodes (z.1.setNames (ins (s,t.last+1) z.1.names))++_=(In.nameIn t dir s (t.last+1)).nodes++_
       rw[In.gh HI.out hd hi']
       rfl)
      have ff:=qh (show Grow w0 (ze (rL ⟨g,xs⟩ t.quota (t.last+1) zs)) (ze ((fV++[((⟨t.last+1,isDir,1,0,ByteArray.empty,[]⟩,none):NodV)]).flatMap NodV.ents)) from fun k hk=>by
       rw[e3] at hk
       exact kq.grow k (by rw[yd];exact .tail _ (laCz _ hk)))
      have HK2:=qh hk2
      have Bv:=qh e3
      clear e1 e2 e3 hk2
      generalize fV++[((⟨t.last+1,isDir,1,0,ByteArray.empty,[]⟩,none):NodV)]=aF at*
      obtain⟨ub,ud,hu2,-⟩:=zf HK2.out
      rw[hu2]
      (refine qq ?_)
      (refine qw ?_;intros;rename_i hM)
      rename World=>w
      (refine qf ?_)
      rw[HE.out]
      refine⟨rfl,s2,aF,kH.out, ?_⟩
      have bJ:St w0 [g] w (gf ⟨g,s2⟩ t.quota (t.last+1+1) aF):=by
       unfold gf rE
       simp only
       rw[hu2,Bv.out]
       exact hM.forget
      exact RTo.fin bJ (by rw[yd];exact .head _) ff.out HK2.out ox.out sk.out
   ·have HE:=qh (In.kF (b:=isDir) hd hc (by rw[hi];omega))
    (refine qw ?_;intros;rename_i hM)
    ((refine qf ?_);(rw[HE.out]);exact⟨rfl,HB.out _ (hM.part qpt) hM.only⟩)
  ·have q1:(c != 0)=true:=bne_iff_ne.2 hc0
   have HE:=qh (show In.make t dir s isDir=(0,c,t) by rw[In.kE (by rw[hc];exact hc0),hc])
   clear hc hc0
   rw[q1]
   (refine qw ?_;intros;rename_i hM)
   ((refine qf ?_);(rw[HE.out]);exact⟨rfl,HB.out _ (hM.part qpt) hM.only⟩)
end
end
section
open Go.RowKit Go.Maps
namespace In
section
variable {t:TabD}
theorem dh{id:Int}{b:Bool}(h:find t.nodes id=none):getE t id b=3:=by unfold getE;rw[h]
theorem aI{id:Int}{b:Bool}{n:NodeD}(h:find t.nodes id=some n):getE t id b=if n.dir==b then 0 else 12:=by unfold getE;rw[h]
theorem fk{dir:Int}{s:ByteArray}(h:placeE t dir s≠0):emptyE t dir s=placeE t dir s:=by
 have q:(placeE t dir s==0)=false:=qne.2 h
 unfold emptyE
 rw[q]
 rfl
theorem gl{dir:Int}{s:ByteArray}{d:NodeD}(hd:find t.nodes dir=some d)(h:placeE t dir s=0):emptyE t dir s=if leads d.names s=0 then 0 else 4:=by
 unfold emptyE
 rw[h,at_some hd]
 by_cases hl:leads d.names s=0
 ·rw[hl];rfl
 ·rw[if_neg hl,qne.2 hl];rfl
theorem cT{id dir:Int}{s:ByteArray}{e:Int}(he:e≠0)(h:linkE t id dir s=e):link t id dir s=(e,t):=by
 unfold link
 rw[h,qne.2 he]
 rfl
theorem kI{id dir:Int}{s:ByteArray}(h:linkE t id dir s=0):link t id dir s=(0,linkT t id dir s):=by
 unfold link
 rw[h]
 rfl
theorem cB{id dir:Int}{s:ByteArray}{n:NodeD}(hn:find t.nodes id=some n)(hd:n.dir=false):linkE t id dir s=emptyE t dir s:=by
 unfold linkE
 rw[aI hn,hd]
 rfl
end
end In
section
variable {w w' w0:World}{F:List Nat}{L M:List Ent}{zs:List NodV}{x:RX}{t:TabD}{N:Nat}{q nx:Int}
theorem xZ(h:RRaw x q nx zs w0){id:Int}(hf:Zd zs id=none):An 182 #[.pointer (some ⟨x.g,0,none⟩),.int .i64 id] w0 (.tuple #[nodZ,.bool false]):=by
 have C:=zaa h id
 rw[show(zs.find? fun z=>z.1.id==id)=none from hf] at C
 exact C
theorem Zl(h:RRaw x q nx zs w0){id:Int}{z:NodV}(hf:Zd zs id=some z):An 182 #[.pointer (some ⟨x.g,0,none⟩),.int .i64 id] w0 (.tuple #[.agg z.cells.toArray,.bool true]):=by
 have C:=zaa h id
 rw[show(zs.find? fun z=>z.1.id==id)=some z from hf] at C
 exact C
theorem St.jX{F:List Nat}{L M:List Ent}{e:Ent}(h:St w0 F w (M++(e::L))):St w0 F w (e::(M++L)):=h.perm lcMz
theorem St.sn{F:List Nat}{L M:List Ent}{e f:Ent}(h:St w0 F w (f::(M++(e::L)))):St w0 F w (f::e::(M++L)):=h.perm (List.perm_middle.cons f)
theorem St.so{F:List Nat}{L M:List Ent}{e f k:Ent}(h:St w0 F w (k::f::(M++(e::L)))):St w0 F w (k::f::e::(M++L)):=h.perm ((List.perm_middle.cons f).cons k)
theorem bR.lead{dir:Int}{d:NodeD}{s:ByteArray}(I:In.Inv N t)(hd:In.find t.nodes dir=some d):In.leads d.names s=0∨0<In.leads d.names s:=by
 by_cases h0:In.leads d.names s=0
 ·exact .inl h0
 ·right
  obtain⟨n,hn⟩:=I.leads _ (In.find_some hd).1 _ (In.leads_some h0)
  obtain⟨n1,n2⟩:=In.find_some hn
  have:=(I.pos n n1).1
  simp only at n2
  omega
theorem Xl{z z0:NodV}(hz:z∈zs)(hne:z.1.id≠z0.1.id):z∈rset zs z0:=by
 unfold rset
 refine laZz.2 ⟨z,hz, ?_⟩
 rw[if_neg hne]
 exact .head _
theorem Bw(h:bR x t zs w0)(I:In.Inv N t)(hN:N≤900000)(id dir:Int)(s:ByteArray)(hs:s.size≤1000000000):
  Calls Tryz.prog 189 #[.pointer (some ⟨x.g,0,none⟩),.int .i64 id,.int .i64 dir,.string s] w0 fun e w'=>e= .returned (.int .i64 (In.link t id dir s).1)∧cA x t zs (In.link t id dir s).2 w0 w':=by
 cases hf:Zd zs id with
 |none=>
  have hM:=St.start w0 []
  have HC:=qh (fun (W:World) (hb:Below w0.heap.size w0 W)=>xZ (h.raw.below hb) hf)
  unfold nodZ at HC
  have HR:=qh (fun (W:World) (hb:Below w0.heap.size w0 W)=>cA.same h hb)
  rw[In.cT (e:=3) (by decide) (by unfold In.linkE;rw[In.dh (by rw[h.find id,hf];rfl)];rfl)]
  clear h hf hs I
  simp only
  go_enter Tryz.func189,Tryz.ntmps189
  (refine qw ?_;intros;rename_i hM)
  (refine qCB (HC.out _ hM.to_below) hM ?_;clear hM;intro w' hM)
  (refine qw ?_;intros;rename_i hM)
  (refine qf ?_)
  exact⟨rfl,HR.out _ hM.to_below⟩
 |some y=>
  have hy:=(zu hf).1
  have hn:In.find t.nodes id=some y.1:=by rw[h.find id,hf];rfl
  (obtain⟨g,xs,va,vc,U,rfl,hv,hU,hM,dX,dZ,bW,HB⟩:=XR h)
  obtain⟨ya,yc,bD,-⟩:=zf (h.raw.names y hy)
  have HG:=qh (fun (W:World) (hA:At ((g,true,Res.cells [.int .i64 t.quota,.int .i64 (t.last+1),.slice va zs.length vc] 146)::U) W)=>Zl (bW.out W hA).raw hf)
  rw[NodV.open bD] at HG
  cases bn:y.1.dir with
  |true=>
   have HE:=qh (In.cT (t:=t) (id:=id) (dir:=dir) (s:=s) (e:=12) (by decide) (by unfold In.linkE;rw[In.aI hn,bn];rfl))
   rw[bn] at HG
   (have HH:=qh h;have HI:=qh I;clear h I hv hU)
   go_enter Tryz.func189,Tryz.ntmps189
   (refine qw ?_;intros;rename_i hM)
   (refine qCB (HG.out _ (hM.part qpt)) hM ?_;clear hM;intro w' hM)
   (refine qw ?_;intros;rename_i hM)
   ((refine qf ?_);(rw[HE.out]);exact⟨rfl,HB.out _ (hM.part qpt) hM.only⟩)
  |false=>
   rw[bn] at HG
   cases mn:Zd zs dir with
   |none=>
    have HE:=qh (In.cT (t:=t) (id:=id) (dir:=dir) (s:=s) (e:=3) (by decide) (by rw[In.cB hn bn,In.fk (by rw[In.bu (by rw[h.find dir,mn];rfl)];decide),In.bu (by rw[h.find dir,mn];rfl)]))
    have HP:=qh (fun (W:World) (hA:At ((g,true,Res.cells [.int .i64 t.quota,.int .i64 (t.last+1),.slice va zs.length vc] 146)::U) W)=>YD (s:=s) (bW.out W hA).raw mn)
    unfold nodZ at HP
    (have HH:=qh h;have HI:=qh I;clear h I hv hU)
    go_enter Tryz.func189,Tryz.ntmps189
    (refine qw ?_;intros;rename_i hM)
    (refine qCB (HG.out _ (hM.part qpt)) hM ?_;clear hM;intro w' hM)
    (refine qw ?_;intros;rename_i hM)
    (refine qCB (HP.out _ (hM.part qpt)) hM ?_;clear hM;intro w' hM)
    (refine qw ?_;intros;rename_i hM)
    ((refine qf ?_);(rw[HE.out]);exact⟨rfl,HB.out _ (hM.part qpt) hM.only⟩)
   |some z=>
    have hz:=(zu mn).1
    have hd:In.find t.nodes dir=some z.1:=by rw[h.find dir,mn];rfl
    obtain⟨wa,wc,hwv,-⟩:=zf (h.raw.names z hz)
    have HP:=qh (fun (W:World) (hA:At ((g,true,Res.cells [.int .i64 t.quota,.int .i64 (t.last+1),.slice va zs.length vc] 146)::U) W)=>Yp (s:=s) (bW.out W hA).raw hs mn)
    have gW:=qh (fun (W:World) (hA:At ((g,true,Res.cells [.int .i64 t.quota,.int .i64 (t.last+1),.slice va zs.length vc] 146)::U) W)=>YW z ((bW.out W hA).raw.nm (h.nl I hN) hz) s)
    have oZ:=qh (fun (W:World) (hA:At ((g,true,Res.cells [.int .i64 t.quota,.int .i64 (t.last+1),.slice va zs.length vc] 146)::U) W)=>Xc z ((bW.out W hA).raw.nm (h.nl I hN) hz) s id)
    rw[NodV.open hwv] at HP gW oZ
    rw[XW h mn s] at HP
    have hyl:0≤y.1.links∧y.1.links≤4000000:=by
     have h1:=I.links y.1 (h.mem hy)
     have h2:=In.cnt_le t.nodes y.1.id
     have h3:=I.tot
     unfold In.rootI at h1
     split at h1<;> omega
    (have HH:=qh h;have HI:=qh I;clear h I hv hU)
    generalize hc:In.placeE t dir s=c at HP
    generalize hi:In.leads z.1.names s=i at gW
    go_enter Tryz.func189,Tryz.ntmps189
    (refine qw ?_;intros;rename_i hM)
    (refine qCB (HG.out _ (hM.part qpt)) hM ?_;clear hM;intro w' hM)
    (refine qw ?_;intros;rename_i hM)
    (refine qCB (HP.out _ (hM.part qpt)) hM ?_;clear hM;intro w' hM)
    (refine qw ?_;intros;rename_i hM)
    by_cases hc0:c=0
    ·subst hc0
     (refine qw ?_;intros;rename_i hM)
     (refine qCB (gW.out _ (hM.part qpt)) hM ?_;clear hM;intro w' hM)
     have o6:i=0∨0<i:=by rw[←hi];exact bR.lead HI.out hd
     rcases o6 with hi0|hi0
     ·subst hi0
      have HE:=qh (In.kI (t:=t) (id:=id) (dir:=dir) (s:=s) (by rw[In.cB hn bn,In.gl hd hc,if_pos hi]))
      have iN:z.1.dir=true:=by
       obtain⟨d,h1,h2,-⟩:=In.placeE_ok hc
       rw[hd] at h1
       cases h1
       exact h2
      have hne:id≠dir:=fun e=>by
       rw[e,hd] at hn
       rw[Option.some.inj hn,bn] at iN
       cases iN
      have iX:IntKind.i64.wrap (y.1.links+1)=y.1.links+1:=Za _ (by omega)
      have HID:=qh (HH.out.ids HI.out)
      have mo:=qh (fun p'=>Xl (z0:=((z.1.setNames (ins (s,id) z.1.names),p'):NodV)) hy (show y.1.id≠z.1.id by rw[(zu hf).2,(zu mn).2];exact hne))
      have gQ:=qh (fun p'=>(show(rset (rset zs ((z.1.setNames (ins (s,id) z.1.names),p'):NodV)) ((y.1.setLinks (y.1.links+1),y.2):NodV)).map (·.1)=(In.linkT t id dir s).nodes by
       rw[zU,zU,HH.out.nodes]
       show In.bt (In.bt t.nodes (z.1.setNames (ins (s,id) z.1.names))) _=(In.linksUp (In.nameIn t dir s id) id).nodes
       rw[In.gh HI.out hd hi]
       exact In.iT (by rw[In.find_nameIn hd,if_neg hne];exact hn) hyl.1))
      have iY:=qh (show NodV.cells (y.1.setLinks (y.1.links+1),y.2)=[.int .i64 y.1.id,.bool false,.int .i64 (y.1.links+1),.int .i64 y.1.holds,.string y.1.data,.slice ya y.1.names.length yc] by rw[NodV.open (z:=(y.1.setLinks (y.1.links+1),y.2)) bD,←bn];rfl)
      clear hc hi hyl bn iN hne bD
      (refine qw ?_;intros;rename_i hM)
      (refine qK3 (fun R hR=> ?_))
      refine(oZ.out _ (hM.part qpt)).mono ?_
      rintro e w' ⟨p',rfl,hok,hst⟩;refine hR.out _ _ ?_;clear hR R
      replace hM:=hM.madeM hst (zo _ _ _ _)
      clear hst
      rw[←dZ.out] at hM
      replace hM:=(St.jX hM).forget.jX
      (refine qq ?_)
      (refine qw ?_;intros;rename_i hM)
      (refine qK3 (fun R hR=> ?_))
      refine(ZR dX.out hM qsf HID.out hok).mono ?_
      rintro e w' ⟨rfl,s1,bm,kq⟩;refine hR.out _ _ ?_;clear hR R hM
      have hM:=St.gI bm qsw
      clear bm
      (refine qq ?_)
      (refine qw ?_;intros;rename_i hM)
      (refine qK3 (fun R hR=> ?_))
      have C:=yq kq hM qsf (yM _ HID.out) (mo.out p') (n:=y.1.setLinks (y.1.links+1)) rfl rfl
      rw[iY.out] at C
      refine C.mono ?_
      clear C
      rintro e w' ⟨rfl,s2,bm,d_⟩;refine hR.out _ _ ?_;clear hR R hM
      have hM:=bm
      clear bm
      (refine qq ?_)
      (refine qw ?_;intros;rename_i hM)
      (refine qf ?_)
      rw[HE.out]
      exact⟨rfl,s2,_,gQ.out p',d_.to (At.gI (hM.part qpt)) hM.only⟩
     ·have HE:=qh (In.cT (t:=t) (id:=id) (dir:=dir) (s:=s) (e:=4) (by decide) (by rw[In.cB hn bn,In.gl hd hc,if_neg (by rw[hi];omega)]))
      (refine qw ?_;intros;rename_i hM)
      ((refine qf ?_);(rw[HE.out]);exact⟨rfl,HB.out _ (hM.part qpt) hM.only⟩)
    ·have q1:(c != 0)=true:=bne_iff_ne.2 hc0
     have HE:=qh (In.cT (t:=t) (id:=id) (dir:=dir) (s:=s) (e:=c) hc0 (by rw[In.cB hn bn,In.fk (by rw[hc];exact hc0),hc]))
     clear hc hc0
     rw[q1]
     (refine qw ?_;intros;rename_i hM)
     ((refine qf ?_);(rw[HE.out]);exact⟨rfl,HB.out _ (hM.part qpt) hM.only⟩)
end
end
section
open Go.RowKit Go.Maps
section
variable {w w' w0:World}{F:List Nat}{L M:List Ent}{zs:List NodV}{x:RX}{t:TabD}{N:Nat}{q nx:Int}
theorem Bx(h:bR x t zs w)(dir:Int)(s:ByteArray):oY zs dir s=(In.findN t dir s,In.findE t dir s):=by
 unfold oY
 cases hf:Zd zs dir with
 |none=>
  have hd:In.find t.nodes dir=none:=by rw[h.find dir,hf];rfl
  have e:In.findE t dir s=3:=by unfold In.findE;rw[In.bu hd];rfl
  unfold In.findN
  rw[e]
  rfl
 |some z=>
  have hd:In.find t.nodes dir=some z.1:=by rw[h.find dir,hf];rfl
  simp only
  rw[XW h hf s]
  unfold In.findN In.findE
  rw[In.at_some hd]
  by_cases hc:In.placeE t dir s=0
  ·rw[hc,if_pos rfl]
   by_cases hl:In.leads z.1.names s=0
   ·rw[hl];rfl
   ·rw[if_neg hl,qne.2 hl];rfl
  ·rw[if_neg hc,qne.2 hc]
   simp[hc]
theorem Zv(h:bR x t zs w0)(I:In.Inv N t)(hN:N≤900000)(dir:Int)(s:ByteArray)(hs:s.size≤1000000000):An 145 #[.pointer (some ⟨x.g,0,none⟩),.int .i64 dir,.string s] w0 (.tuple #[.int .i64 (In.findN t dir s),.int .i64 (In.findE t dir s)]):=by
 have C:=Bn h.raw (h.nl I hN) (dir:=dir) hs
 rw[Bx h dir s] at C
 exact C
theorem bR.some(h:bR x t zs w){id:Int}{n:NodeD}(hn:In.find t.nodes id=some n): ∃ y,Zd zs id=some y∧y.1=n:=by
 rw[h.find id] at hn
 cases hf:Zd zs id with
 |none=>rw[hf] at hn;cases hn
 |some y=>rw[hf] at hn;exact⟨y,rfl,Option.some.inj hn⟩
theorem uO{dir:Int}{s:ByteArray}{e:Int}(he:e≠0)(h:In.unlinkE t dir s=e):In.unlink t dir s=(e,t):=by
 unfold In.unlink
 rw[h,qne.2 he]
 rfl
theorem By{dir:Int}{s:ByteArray}(h:In.unlinkE t dir s=0):In.unlink t dir s=(0,In.loses t dir s):=by
 unfold In.unlink
 rw[h]
 rfl
theorem yk{dir:Int}{s:ByteArray}(h:In.findE t dir s=0):In.unlinkE t dir s=In.getE t (In.findN t dir s) false:=by
 unfold In.unlinkE
 rw[h]
 rfl
theorem xG{dir:Int}{s:ByteArray}(h:In.findE t dir s≠0):In.unlinkE t dir s=In.findE t dir s:=by
 unfold In.unlinkE
 rw[qne.2 h]
 rfl
theorem bL{dir:Int}{s:ByteArray}{e:Int}(he:e≠0)(h:In.removeE t dir s=e):In.remove t dir s=(e,t):=by
 unfold In.remove
 rw[h,qne.2 he]
 rfl
theorem Bz{dir:Int}{s:ByteArray}(h:In.removeE t dir s=0):In.remove t dir s=(0,In.loses t dir s):=by
 unfold In.remove
 rw[h]
 rfl
theorem BA{dir:Int}{s:ByteArray}(h:In.findE t dir s≠0):In.removeE t dir s=In.findE t dir s:=by
 unfold In.removeE
 rw[qne.2 h]
 rfl
theorem YO{dir:Int}{s:ByteArray}{n:NodeD}(h:In.findE t dir s=0)(hn:In.find t.nodes (In.findN t dir s)=some n):In.removeE t dir s=if n.dir then(if 0<n.names.length then 7 else 0) else 12:=by
 unfold In.removeE
 rw[h,In.aI hn,In.at_some hn]
 cases n.dir
 ·rfl
 ·by_cases hl:0<n.names.length
  ·simp[hl]
  ·simp[hl]
theorem BB(h:bR x t zs w0)(I:In.Inv N t)(hN:N≤900000)(dir:Int)(s:ByteArray)(hs:s.size≤1000000000):
  Calls Tryz.prog 143 #[.pointer (some ⟨x.g,0,none⟩),.int .i64 dir,.string s] w0 fun e w'=>e= .returned (.int .i64 (In.unlink t dir s).1)∧cA x t zs (In.unlink t dir s).2 w0 w':=by
 by_cases hF:In.findE t dir s=0
 ·obtain⟨d,hd,hdd,hl,dp⟩:=In.findE_ok hF
  obtain⟨n,hn⟩:=I.leads d (In.find_some hd).1 _ (In.leads_some hl)
  simp only at hn
  obtain⟨z,gR,iN⟩:=h.some hd
  obtain⟨y,lI,hyn⟩:=h.some hn
  subst iN hyn
  have hy:=(zu lI).1
  have hz:=(zu gR).1
  (obtain⟨g,xs,va,vc,U,rfl,hv,hU,hM,dX,dZ,bW,HB⟩:=XR h)
  obtain⟨ya,yc,bD,-⟩:=zf (h.raw.names y hy)
  obtain⟨wa,wc,hwv,-⟩:=zf (h.raw.names z hz)
  have dt:=qh (fun (W:World) (hA:At ((g,true,Res.cells [.int .i64 t.quota,.int .i64 (t.last+1),.slice va zs.length vc] 146)::U) W)=>Zv (bW.out W hA) I hN dir s hs)
  have HG:=qh (fun (W:World) (hA:At ((g,true,Res.cells [.int .i64 t.quota,.int .i64 (t.last+1),.slice va zs.length vc] 146)::U) W)=>Zl (bW.out W hA).raw lI)
  rw[hF,dp] at dt
  rw[NodV.open bD] at HG
  cases bn:y.1.dir with
  |true=>
   have HE:=qh (uO (t:=t) (dir:=dir) (s:=s) (e:=12) (by decide) (by rw[yk hF,dp,In.aI hn,bn];rfl))
   rw[bn] at HG
   generalize In.leads z.1.names s=k at*
   (have HH:=qh h;have HI:=qh I;clear h I hv hU)
   clear hF hd hdd hl dp hn
   go_enter Tryz.func143,Tryz.ntmps143
   (refine qw ?_;intros;rename_i hM)
   (refine qCB (dt.out _ (hM.part qpt)) hM ?_;clear hM;intro w' hM)
   (refine qw ?_;intros;rename_i hM)
   (refine qCB (HG.out _ (hM.part qpt)) hM ?_;clear hM;intro w' hM)
   (refine qw ?_;intros;rename_i hM)
   ((refine qf ?_);(rw[HE.out]);exact⟨rfl,HB.out _ (hM.part qpt) hM.only⟩)
  |false=>
   have HE:=qh (By (t:=t) (dir:=dir) (s:=s) (by rw[yk hF,dp,In.aI hn,bn];rfl))
   rw[bn] at HG
   have hne:In.leads z.1.names s≠dir:=fun e=>by
    rw[e,hd] at hn
    rw[Option.some.inj hn,bn] at hdd
    cases hdd
   have oy:=In.gj I hd hdd hl hn bn
   have lN:y.1.links≤4000000:=by
    have h1:=I.links y.1 (h.mem hy)
    have h2:=In.cnt_le t.nodes y.1.id
    have h3:=I.tot
    unfold In.rootI at h1
    split at h1<;> omega
   have HD:=qh (fun (W:World) (hA:At ((g,true,Res.cells [.int .i64 t.quota,.int .i64 (t.last+1),.slice va zs.length vc] 146)::U) W)=>Zl (bW.out W hA).raw gR)
   have mq:=qh (fun (W:World) (hA:At ((g,true,Res.cells [.int .i64 t.quota,.int .i64 (t.last+1),.slice va zs.length vc] 146)::U) W)=>yo z ((bW.out W hA).raw.nm (h.nl I hN) hz) s)
   rw[NodV.open hwv] at HD mq
   have iX:IntKind.i64.wrap (y.1.links - 1)=y.1.links - 1:=Za _ (by omega)
   have HID:=qh (h.ids I)
   have mo:=qh (fun p'=>Xl (z0:=((z.1.setNames (In.without z.1.names s),p'):NodV)) hy (show y.1.id≠z.1.id by rw[(zu lI).2,(zu gR).2];exact hne))
   have gQ:=qh (fun p'=>(show(rset (rset zs ((z.1.setNames (In.without z.1.names s),p'):NodV)) ((y.1.setLinks (y.1.links - 1),y.2):NodV)).map (·.1)=(In.loses t dir s).nodes by
    rw[zU,zU,h.nodes]
    show In.bt (In.bt t.nodes (z.1.setNames (In.without z.1.names s))) (y.1.setLinks (y.1.links - 1))=_
    rw[In.bh I hd s]
    exact In.dy I hd rfl hn hne rfl (by show 0≤y.1.links - 1;omega)))
   have iY:=qh (show NodV.cells (y.1.setLinks (y.1.links - 1),y.2)=[.int .i64 y.1.id,.bool false,.int .i64 (y.1.links - 1),.int .i64 y.1.holds,.string y.1.data,.slice ya y.1.names.length yc] by rw[NodV.open (z:=(y.1.setLinks (y.1.links - 1),y.2)) bD,←bn];rfl)
   (have HH:=qh h;have HI:=qh I;clear h I hv hU)
   generalize hk:In.leads z.1.names s=k at dt HG
   clear hF hd hdd hl dp hn bn hne oy lN bD hk
   go_enter Tryz.func143,Tryz.ntmps143
   (refine qw ?_;intros;rename_i hM)
   (refine qCB (dt.out _ (hM.part qpt)) hM ?_;clear hM;intro w' hM)
   (refine qw ?_;intros;rename_i hM)
   (refine qCB (HG.out _ (hM.part qpt)) hM ?_;clear hM;intro w' hM)
   (refine qw ?_;intros;rename_i hM)
   (refine qCB (HD.out _ (hM.part qpt)) hM ?_;clear hM;intro w' hM)
   (refine qw ?_;intros;rename_i hM)
   (refine qK3 (fun R hR=> ?_))
   refine(mq.out _ (hM.part qpt)).mono ?_
   rintro e w' ⟨p',rfl,hok,hst⟩;refine hR.out _ _ ?_;clear hR R
   replace hM:=hM.madeM hst (zo _ _ _ _)
   clear hst
   rw[←dZ.out] at hM
   replace hM:=(St.jX hM).forget.jX
   (refine qq ?_)
   (refine qw ?_;intros;rename_i hM)
   (refine qK3 (fun R hR=> ?_))
   refine(ZR dX.out hM qsf HID.out hok).mono ?_
   rintro e w' ⟨rfl,s1,bm,kq⟩;refine hR.out _ _ ?_;clear hR R hM
   have hM:=St.gI bm qsw
   clear bm
   (refine qq ?_)
   (refine qw ?_;intros;rename_i hM)
   (refine qK3 (fun R hR=> ?_))
   have C:=yq kq hM qsf (yM _ HID.out) (mo.out p') (n:=y.1.setLinks (y.1.links - 1)) rfl rfl
   rw[iY.out] at C
   refine C.mono ?_
   clear C
   rintro e w' ⟨rfl,s2,bm,d_⟩;refine hR.out _ _ ?_;clear hR R hM
   have hM:=bm
   clear bm
   (refine qq ?_)
   (refine qw ?_;intros;rename_i hM)
   (refine qf ?_)
   rw[HE.out]
   refine⟨rfl,s2,_,gQ.out p', ?_⟩
   rw[(In.dg dir s).1,(In.dg dir s).2]
   exact d_.to (At.gI (hM.part qpt)) hM.only
 ·(obtain⟨g,xs,va,vc,U,rfl,hv,hU,hM,dX,dZ,bW,HB⟩:=XR h)
  have dt:=qh (fun (W:World) (hA:At ((g,true,Res.cells [.int .i64 t.quota,.int .i64 (t.last+1),.slice va zs.length vc] 146)::U) W)=>Zv (bW.out W hA) I hN dir s hs)
  have HE:=qh (uO hF (xG hF))
  generalize In.findE t dir s=c at*
  generalize In.findN t dir s=k at*
  have q1:(c != 0)=true:=bne_iff_ne.2 hF
  (have HH:=qh h;have HI:=qh I;clear h I hv hU)
  clear hF
  go_enter Tryz.func143,Tryz.ntmps143
  (refine qw ?_;intros;rename_i hM)
  (refine qCB (dt.out _ (hM.part qpt)) hM ?_;clear hM;intro w' hM)
  (refine qw ?_;intros;rename_i hM)
  ((refine qf ?_);(rw[HE.out]);exact⟨rfl,HB.out _ (hM.part qpt) hM.only⟩)
end
end
section
open Go.RowKit Go.Maps
section
variable {w w' w0:World}{F:List Nat}{L M:List Ent}{zs:List NodV}{x:RX}{t:TabD}{N:Nat}{q nx:Int}
theorem BC(h:bR x t zs w0)(I:In.Inv N t)(hN:N≤900000)(dir:Int)(s:ByteArray)(hs:s.size≤1000000000):
  Calls Tryz.prog 142 #[.pointer (some ⟨x.g,0,none⟩),.int .i64 dir,.string s] w0 fun e w'=>e= .returned (.int .i64 (In.remove t dir s).1)∧cA x t zs (In.remove t dir s).2 w0 w':=by
 by_cases hF:In.findE t dir s=0
 ·obtain⟨d,hd,hdd,hl,dp⟩:=In.findE_ok hF
  obtain⟨n,hn⟩:=I.leads d (In.find_some hd).1 _ (In.leads_some hl)
  simp only at hn
  obtain⟨z,gR,iN⟩:=h.some hd
  obtain⟨y,lI,hyn⟩:=h.some hn
  subst iN hyn
  have hy:=(zu lI).1
  have hz:=(zu gR).1
  (obtain⟨g,xs,va,vc,U,rfl,hv,hU,hM,dX,dZ,bW,HB⟩:=XR h)
  obtain⟨ya,yc,bD,-⟩:=zf (h.raw.names y hy)
  obtain⟨wa,wc,hwv,-⟩:=zf (h.raw.names z hz)
  have dt:=qh (fun (W:World) (hA:At ((g,true,Res.cells [.int .i64 t.quota,.int .i64 (t.last+1),.slice va zs.length vc] 146)::U) W)=>Zv (bW.out W hA) I hN dir s hs)
  have HG:=qh (fun (W:World) (hA:At ((g,true,Res.cells [.int .i64 t.quota,.int .i64 (t.last+1),.slice va zs.length vc] 146)::U) W)=>Zl (bW.out W hA).raw lI)
  rw[hF,dp] at dt
  rw[NodV.open bD] at HG
  cases bn:y.1.dir with
  |false=>
   have HE:=qh (bL (t:=t) (dir:=dir) (s:=s) (e:=12) (by decide) (by rw[YO hF (by rw[dp];exact hn),bn];rfl))
   rw[bn] at HG
   generalize In.leads z.1.names s=k at*
   (have HH:=qh h;have HI:=qh I;clear h I hv hU)
   clear hF hd hdd hl dp hn
   go_enter Tryz.func142,Tryz.ntmps142
   (refine qw ?_;intros;rename_i hM)
   (refine qCB (dt.out _ (hM.part qpt)) hM ?_;clear hM;intro w' hM)
   (refine qw ?_;intros;rename_i hM)
   (refine qCB (HG.out _ (hM.part qpt)) hM ?_;clear hM;intro w' hM)
   (refine qw ?_;intros;rename_i hM)
   ((refine qf ?_);(rw[HE.out]);exact⟨rfl,HB.out _ (hM.part qpt) hM.only⟩)
  |true=>
   rw[bn] at HG
   by_cases hl0:0<y.1.names.length
   ·have HE:=qh (bL (t:=t) (dir:=dir) (s:=s) (e:=7) (by decide) (by rw[YO hF (by rw[dp];exact hn),bn,if_pos rfl,if_pos hl0]))
    have k7:0<y.1.names.length:=hl0
    generalize In.leads z.1.names s=k at*
    (have HH:=qh h;have HI:=qh I;clear h I hv hU)
    clear hF hd hdd hl dp hn hl0
    go_enter Tryz.func142,Tryz.ntmps142
    (refine qw ?_;intros;rename_i hM)
    (refine qCB (dt.out _ (hM.part qpt)) hM ?_;clear hM;intro w' hM)
    (refine qw ?_;intros;rename_i hM)
    (refine qCB (HG.out _ (hM.part qpt)) hM ?_;clear hM;intro w' hM)
    (refine qw ?_;intros;rename_i hM)
    ((refine qf ?_);(rw[HE.out]);exact⟨rfl,HB.out _ (hM.part qpt) hM.only⟩)
   ·have HE:=qh (Bz (t:=t) (dir:=dir) (s:=s) (by rw[YO hF (by rw[dp];exact hn),bn,if_pos rfl,if_neg hl0]))
    have k7:decide (0<y.1.names.length)=false:=decide_eq_false (by omega)
    have hne:In.leads z.1.names s≠dir:=fun e=>by
     rw[e,hd] at hn
     have h1:=In.leads_some hl
     rw[Option.some.inj hn] at h1
     have:=List.length_pos_of_mem h1
     omega
    have oy:y.1.links=1:=(I.alive y.1 (h.mem hy) (by have:=(I.pos y.1 (h.mem hy)).1;omega)).2 bn
    have HD:=qh (fun (W:World) (hA:At ((g,true,Res.cells [.int .i64 t.quota,.int .i64 (t.last+1),.slice va zs.length vc] 146)::U) W)=>Zl (bW.out W hA).raw gR)
    have mq:=qh (fun (W:World) (hA:At ((g,true,Res.cells [.int .i64 t.quota,.int .i64 (t.last+1),.slice va zs.length vc] 146)::U) W)=>yo z ((bW.out W hA).raw.nm (h.nl I hN) hz) s)
    rw[NodV.open hwv] at HD mq
    have HID:=qh (h.ids I)
    have mo:=qh (fun p'=>Xl (z0:=((z.1.setNames (In.without z.1.names s),p'):NodV)) hy (show y.1.id≠z.1.id by rw[(zu lI).2,(zu gR).2];exact hne))
    have gQ:=qh (fun p'=>(show(rset (rset zs ((z.1.setNames (In.without z.1.names s),p'):NodV)) ((y.1.setLinks 0,y.2):NodV)).map (·.1)=(In.loses t dir s).nodes by
     rw[zU,zU,h.nodes]
     show In.bt (In.bt t.nodes (z.1.setNames (In.without z.1.names s))) (y.1.setLinks 0)=_
     rw[In.bh I hd s]
     exact In.dy I hd rfl hn hne (by rw[oy];rfl) (by show(0:Int)≤0;omega)))
    have iY:=qh (show NodV.cells (y.1.setLinks 0,y.2)=[.int .i64 y.1.id,.bool true,.int .i64 0,.int .i64 y.1.holds,.string y.1.data,.slice ya y.1.names.length yc] by rw[NodV.open (z:=(y.1.setLinks 0,y.2)) bD,←bn];rfl)
    (have HH:=qh h;have HI:=qh I;clear h I hv hU)
    generalize hk:In.leads z.1.names s=k at dt HG
    clear hF hd hdd hl dp hn bn hne oy bD hk hl0
    go_enter Tryz.func142,Tryz.ntmps142
    (refine qw ?_;intros;rename_i hM)
    (refine qCB (dt.out _ (hM.part qpt)) hM ?_;clear hM;intro w' hM)
    (refine qw ?_;intros;rename_i hM)
    (refine qCB (HG.out _ (hM.part qpt)) hM ?_;clear hM;intro w' hM)
    (refine qw ?_;intros;rename_i hM)
    (refine qCB (HD.out _ (hM.part qpt)) hM ?_;clear hM;intro w' hM)
    (refine qw ?_;intros;rename_i hM)
    (refine qK3 (fun R hR=> ?_))
    refine(mq.out _ (hM.part qpt)).mono ?_
    rintro e w' ⟨p',rfl,hok,hst⟩;refine hR.out _ _ ?_;clear hR R
    replace hM:=hM.madeM hst (zo _ _ _ _)
    clear hst
    rw[←dZ.out] at hM
    replace hM:=(St.jX hM).forget.jX
    (refine qq ?_)
    (refine qw ?_;intros;rename_i hM)
    (refine qK3 (fun R hR=> ?_))
    refine(ZR dX.out hM qsf HID.out hok).mono ?_
    rintro e w' ⟨rfl,s1,bm,kq⟩;refine hR.out _ _ ?_;clear hR R hM
    have hM:=St.gI bm qsw
    clear bm
    (refine qq ?_)
    (refine qw ?_;intros;rename_i hM)
    (refine qK3 (fun R hR=> ?_))
    have C:=yq kq hM qsf (yM _ HID.out) (mo.out p') (n:=y.1.setLinks 0) rfl rfl
    rw[iY.out] at C
    refine C.mono ?_
    clear C
    rintro e w' ⟨rfl,s2,bm,d_⟩;refine hR.out _ _ ?_;clear hR R hM
    have hM:=bm
    clear bm
    (refine qq ?_)
    (refine qw ?_;intros;rename_i hM)
    (refine qf ?_)
    rw[HE.out]
    refine⟨rfl,s2,_,gQ.out p', ?_⟩
    rw[(In.dg dir s).1,(In.dg dir s).2]
    exact d_.to (At.gI (hM.part qpt)) hM.only
 ·(obtain⟨g,xs,va,vc,U,rfl,hv,hU,hM,dX,dZ,bW,HB⟩:=XR h)
  have dt:=qh (fun (W:World) (hA:At ((g,true,Res.cells [.int .i64 t.quota,.int .i64 (t.last+1),.slice va zs.length vc] 146)::U) W)=>Zv (bW.out W hA) I hN dir s hs)
  have HE:=qh (bL hF (BA hF))
  generalize In.findE t dir s=c at*
  generalize In.findN t dir s=k at*
  have q1:(c != 0)=true:=bne_iff_ne.2 hF
  (have HH:=qh h;have HI:=qh I;clear h I hv hU)
  clear hF
  go_enter Tryz.func142,Tryz.ntmps142
  (refine qw ?_;intros;rename_i hM)
  (refine qCB (dt.out _ (hM.part qpt)) hM ?_;clear hM;intro w' hM)
  (refine qw ?_;intros;rename_i hM)
  ((refine qf ?_);(rw[HE.out]);exact⟨rfl,HB.out _ (hM.part qpt) hM.only⟩)
end
end
section
open Go.RowKit Go.Maps
theorem St.jB{w0 w:World}{F:List Nat}{L:List Ent}{e f:Ent}(h:St w0 F w (e::f::L)):St w0 F w (e::L):=(h.perm (List.Perm.swap f e L)).forget
namespace In
section
variable {t:TabD}{N:Nat}
theorem BD{δ:Int→Int}(I:InvD δ 0 N t){dir:Int}{d:NodeD}(hd:find t.nodes dir=some d){s:ByteArray}(hl:leads d.names s=0)(id:Int):bt t.nodes (d.setNames (ins (s,id) d.names))=(nameIn t dir s id).nodes:=by
 rw[uL I (find_some hd).1 hl]
 have ha:=(I.alive d (find_some hd).1 (by have:=(I.pos d (find_some hd).1).1;omega)).1
 unfold nameIn
 rw[at_some hd]
 exact ZY ha
theorem fm(I:Inv N t){dir tod:Int}{s as_:ByteArray}{d e:NodeD}(hd:find t.nodes dir=some d)(hdd:d.dir=true)(hl:leads d.names s≠0)(he:find t.nodes tod=some e)(hw:leads e.names as_=0)(k:Int): ∃ e3,find (nameOut t dir s).nodes tod=some e3∧e3.names.length≤N∧bt (nameOut t dir s).nodes (e3.setNames (ins (as_,k) e3.names))=(renameIn t dir s tod as_ k).nodes:=by
 have I3:=xz I hd hdd hl (by have:=(I.pos d (find_some hd).1).1;omega)
 have hf:=ZC hd s tod
 obtain⟨e3,h3,BE⟩: ∃ e3,find (nameOut t dir s).nodes tod=some e3∧leads e3.names as_=0:=by
  by_cases hdt:tod=dir
  ·rw[if_pos hdt] at hf
   refine⟨_,hf, ?_⟩
   rw[hdt,hd] at he
   have hed:=Option.some.inj he
   have hsr:as_≠s:=fun e=>hl (by rw[←e,hed];exact hw)
   show leads (without d.names s) as_=0
   rw[yu hsr,hed]
   exact hw
  ·rw[if_neg hdt] at hf
   exact⟨e,hf.trans he,hw⟩
 refine⟨e3,h3, ?_,BD I3 h3 BE k⟩
 have:=q8 (find_some h3).1
 have:=I3.tot
 omega
theorem iZ(I:Inv N t){dir tod:Int}{s as_:ByteArray}{d e u:NodeD}(hd:find t.nodes dir=some d)(hdd:d.dir=true)(hl:leads d.names s≠0)(he:find t.nodes tod=some e)(hed:e.dir=true)(hne:leads e.names as_≠leads d.names s)(hwz:leads e.names as_≠0)(hu:find t.nodes (leads e.names as_)=some u)(kr:u.dir=false):
  ∃ d2 e2,find (loses t tod as_).nodes dir=some d2∧d2.dir=true∧leads d2.names s=leads d.names s∧find (loses t tod as_).nodes tod=some e2∧leads e2.names as_=0:=by
 have ndw: ∀ {x:Int} {m:NodeD},find t.nodes x=some m→m.dir=true→x≠leads e.names as_:=fun {x m} hm hmd hx=>by
  rw[hx,hu] at hm;rw[←Option.some.inj hm,kr] at hmd;cases hmd
 have fd:=find_loses he hu (ndw hd hdd)
 have fe:=find_loses he hu (ndw he hed)
 rw[if_pos rfl] at fe
 by_cases hdt:dir=tod
 ·rw[if_pos hdt] at fd
  refine⟨_,_,fd,hed, ?_,fe,Xu (YC _ _)⟩
  rw[hdt,he] at hd
  have uP:=Option.some.inj hd
  have hsr:s≠as_:=fun e=>hne (by rw[←e,uP])
  show leads (without e.names as_) s=_
  rw[yu hsr,uP]
 ·rw[if_neg hdt] at fd
  exact⟨d,_,fd.trans hd,hdd,rfl,fe,Xu (YC _ _)⟩
theorem bM{dir tod:Int}{s as_:ByteArray}{e:Int}(he:e≠0)(h:renameE t dir s tod as_=e):rename t dir s tod as_=(e,t):=by
 unfold rename
 rw[h,qne.2 he]
 rfl
theorem dA{dir tod:Int}{s as_:ByteArray}(h:renameE t dir s tod as_=0):rename t dir s tod as_=(0,renameT t dir s tod as_):=by
 unfold rename
 rw[h]
 rfl
theorem fo{dir tod:Int}{s as_:ByteArray}(h:unlinkE t dir s≠0):renameE t dir s tod as_=unlinkE t dir s:=by
 unfold renameE
 rw[qne.2 h]
 rfl
theorem dw{dir tod:Int}{s as_:ByteArray}(h:unlinkE t dir s=0)(hp:placeE t tod as_≠0):renameE t dir s tod as_=placeE t tod as_:=by
 unfold renameE
 rw[h,qne.2 hp]
 rfl
theorem cC{dir tod:Int}{s as_:ByteArray}{e:NodeD}(h:unlinkE t dir s=0)(hp:placeE t tod as_=0)(he:find t.nodes tod=some e):renameE t dir s tod as_=if leads e.names as_=findN t dir s then 0 else if leads e.names as_=0 then 0 else if(at_ t (leads e.names as_)).dir then 12 else 0:=by
 unfold renameE
 rw[h,hp,at_some he]
 by_cases h1:leads e.names as_=findN t dir s
 ·simp[h1]
 ·by_cases h2:leads e.names as_=0
  ·simp[h2]
  ·simp[h1,h2]
theorem dB{dir tod:Int}{s as_:ByteArray}{e:NodeD}(he:find t.nodes tod=some e):renameT t dir s tod as_=if leads e.names as_=findN t dir s then t else if leads e.names as_=0 then renameIn t dir s tod as_ (findN t dir s) else renameIn (loses t tod as_) dir s tod as_ (findN t dir s):=by
 unfold renameT
 rw[at_some he]
 by_cases h1:leads e.names as_=findN t dir s
 ·simp[h1]
 ·by_cases h2:leads e.names as_=0
  ·simp[h2]
  ·simp[h1,h2]
end
end In
end
section
open Go.RowKit Go.Maps
section
variable {w w' w0:World}{F:List Nat}{L M:List Ent}{zs:List NodV}{x:RX}{t:TabD}{N:Nat}{q nx:Int}
theorem xi(h:RRaw x q nx zs w0){id:Int}(a b:Int)(hf:Zd zs id=none):An 212 #[.pointer (some ⟨x.g,0,none⟩),.int .i64 id,.int .i64 a,.int .i64 b] w0 (.tuple #[nodZ,.int .i64 3]):=by
 have hM:=St.start w0 []
 have HC:=qh (fun (W:World) (hb:Below w0.heap.size w0 W)=>xZ (h.below hb) hf)
 unfold nodZ at HC
 clear h hf
 go_enter Tryz.func212,Tryz.ntmps212
 (refine qw ?_;intros;rename_i hM)
 (refine qCB (HC.out _ hM.to_below) hM ?_;clear hM;intro w' hM)
 exact qwf
def mS(z:NodV)(a b:Int):Int:=if z.1.dir then 12 else if a<0∨b<0 then 1 else 0
theorem xj(h:RRaw x q nx zs w0){id:Int}(a b:Int){z:NodV}(hf:Zd zs id=some z):An 212 #[.pointer (some ⟨x.g,0,none⟩),.int .i64 id,.int .i64 a,.int .i64 b] w0 (.tuple #[.agg z.cells.toArray,.int .i64 (mS z a b)]):=by
 have hM:=St.start w0 []
 have HC:=qh (fun (W:World) (hb:Below w0.heap.size w0 W)=>Zl (h.below hb) hf)
 obtain⟨va,vc,hv,-⟩:=zf (h.names z (zu hf).1)
 clear h hf
 obtain⟨⟨zi,zd,zl,zh,zb,zn⟩,zp⟩:=z
 unfold NodV.cells at HC ⊢
 simp only at hv HC ⊢
 rw[hv] at HC ⊢
 clear hv
 unfold mS
 simp only
 cases zd with
 |true=>
  go_enter Tryz.func212,Tryz.ntmps212
  (refine qw ?_;intros;rename_i hM)
  (refine qCB (HC.out _ hM.to_below) hM ?_;clear hM;intro w' hM)
  exact qwf
 |false=>
  by_cases h1:a<0
  ·rw[if_neg nofun,if_pos (.inl h1)]
   go_enter Tryz.func212,Tryz.ntmps212
   (refine qw ?_;intros;rename_i hM)
   (refine qCB (HC.out _ hM.to_below) hM ?_;clear hM;intro w' hM)
   exact qwf
  ·have q1:decide (a<0)=false:=decide_eq_false h1
   by_cases h2:b<0
   ·rw[if_neg nofun,if_pos (.inr h2)]
    clear h1
    go_enter Tryz.func212,Tryz.ntmps212
    (refine qw ?_;intros;rename_i hM)
    (refine qCB (HC.out _ hM.to_below) hM ?_;clear hM;intro w' hM)
    exact qwf
   ·have q2:decide (b<0)=false:=decide_eq_false h2
    rw[if_neg nofun,if_neg (fun h=>h.elim h1 h2)]
    clear h1 h2
    go_enter Tryz.func212,Tryz.ntmps212
    (refine qw ?_;intros;rename_i hM)
    (refine qCB (HC.out _ hM.to_below) hM ?_;clear hM;intro w' hM)
    exact qwf
theorem cU{id:Int}{e:Int}(he:e≠0)(h:In.holdE t id=e):In.hold t id=(e,t):=by
 unfold In.hold
 rw[h,qne.2 he]
 rfl
theorem BF{id:Int}(h:In.holdE t id=0):In.hold t id=(0,In.holdsUp t id):=by
 unfold In.hold
 rw[h]
 rfl
theorem sr{id:Int}{n:NodeD}(hn:In.find t.nodes id=some n):In.holdE t id=if n.dir then 12 else if 1048576≤n.holds then 5 else 0:=by
 unfold In.holdE
 rw[In.aI hn,In.at_some hn]
 cases n.dir
 ·by_cases h:1048576≤n.holds
  ·simp[h]
  ·simp[h]
 ·rfl
theorem BG(h:bR x t zs w0)(I:In.Inv N t)(hN:N≤900000)(id:Int):
  Calls Tryz.prog 188 #[.pointer (some ⟨x.g,0,none⟩),.int .i64 id] w0 fun e w'=>e= .returned (.int .i64 (In.hold t id).1)∧cA x t zs (In.hold t id).2 w0 w':=by
 cases hf:Zd zs id with
 |none=>
  have hM:=St.start w0 []
  have HC:=qh (fun (W:World) (hb:Below w0.heap.size w0 W)=>xi (h.raw.below hb) 0 0 hf)
  unfold nodZ at HC
  have HR:=qh (fun (W:World) (hb:Below w0.heap.size w0 W)=>cA.same h hb)
  rw[cU (e:=3) (by decide) (by unfold In.holdE;rw[In.dh (by rw[h.find id,hf];rfl)];rfl)]
  clear h hf I
  simp only
  go_enter Tryz.func188,Tryz.ntmps188
  (refine qw ?_;intros;rename_i hM)
  (refine qCB (HC.out _ hM.to_below) hM ?_;clear hM;intro w' hM)
  (refine qw ?_;intros;rename_i hM)
  (refine qf ?_)
  exact⟨rfl,HR.out _ hM.to_below⟩
 |some y=>
  have hy:=(zu hf).1
  have hn:In.find t.nodes id=some y.1:=by rw[h.find id,hf];rfl
  (obtain⟨g,xs,va,vc,U,rfl,hv,hU,hM,dX,dZ,bW,HB⟩:=XR h)
  obtain⟨ya,yc,bD,-⟩:=zf (h.raw.names y hy)
  have HG:=qh (fun (W:World) (hA:At ((g,true,Res.cells [.int .i64 t.quota,.int .i64 (t.last+1),.slice va zs.length vc] 146)::U) W)=>xj (bW.out W hA).raw 0 0 hf)
  rw[NodV.open bD] at HG
  unfold mS at HG
  cases bn:y.1.dir with
  |true=>
   have HE:=qh (cU (t:=t) (id:=id) (e:=12) (by decide) (by rw[sr hn,bn];rfl))
   rw[bn,if_pos rfl] at HG
   (have HH:=qh h;have HI:=qh I;clear h I hv hU)
   go_enter Tryz.func188,Tryz.ntmps188
   (refine qw ?_;intros;rename_i hM)
   (refine qCB (HG.out _ (hM.part qpt)) hM ?_;clear hM;intro w' hM)
   (refine qw ?_;intros;rename_i hM)
   ((refine qf ?_);(rw[HE.out]);exact⟨rfl,HB.out _ (hM.part qpt) hM.only⟩)
  |false=>
   rw[bn,if_neg nofun,if_neg (by omega)] at HG
   have hh:=I.holds y.1 (h.mem hy)
   by_cases h5:1048576≤y.1.holds
   ·have HE:=qh (cU (t:=t) (id:=id) (e:=5) (by decide) (by rw[sr hn,bn,if_neg nofun,if_pos h5]))
    (have HH:=qh h;have HI:=qh I;clear h I hv hU)
    go_enter Tryz.func188,Tryz.ntmps188
    (refine qw ?_;intros;rename_i hM)
    (refine qCB (HG.out _ (hM.part qpt)) hM ?_;clear hM;intro w' hM)
    (refine qw ?_;intros;rename_i hM)
    ((refine qf ?_);(rw[HE.out]);exact⟨rfl,HB.out _ (hM.part qpt) hM.only⟩)
   ·have HE:=qh (BF (t:=t) (id:=id) (by rw[sr hn,bn,if_neg nofun,if_neg h5]))
    have k5:decide (1048576≤y.1.holds)=false:=decide_eq_false h5
    have iX:IntKind.i64.wrap (y.1.holds+1)=y.1.holds+1:=Za _ (by omega)
    have HID:=qh (h.ids I)
    have gQ:=qh (show(rset zs ((y.1.setHolds (y.1.holds+1),y.2):NodV)).map (·.1)=(In.holdsUp t id).nodes by
     rw[zU,h.nodes]
     exact In.iU hn hh.1)
    have iY:=qh (show NodV.cells (y.1.setHolds (y.1.holds+1),y.2)=[.int .i64 y.1.id,.bool false,.int .i64 y.1.links,.int .i64 (y.1.holds+1),.string y.1.data,.slice ya y.1.names.length yc] by rw[NodV.open (z:=(y.1.setHolds (y.1.holds+1),y.2)) bD,←bn];rfl)
    (have HH:=qh h;have HI:=qh I;clear h I hv hU)
    clear bn hh h5 bD
    go_enter Tryz.func188,Tryz.ntmps188
    (refine qw ?_;intros;rename_i hM)
    (refine qCB (HG.out _ (hM.part qpt)) hM ?_;clear hM;intro w' hM)
    (refine qw ?_;intros;rename_i hM)
    (refine qK3 (fun R hR=> ?_))
    rw[←dZ.out] at hM
    have C:=yq dX.out hM qsf HID.out hy (n:=y.1.setHolds (y.1.holds+1)) rfl rfl
    rw[iY.out] at C
    refine C.mono ?_
    clear C
    rintro e w' ⟨rfl,s2,bm,d_⟩;refine hR.out _ _ ?_;clear hR R hM
    have hM:=bm
    clear bm
    (refine qq ?_)
    (refine qw ?_;intros;rename_i hM)
    (refine qf ?_)
    rw[HE.out]
    exact⟨rfl,s2,_,gQ.out,d_.to (At.gI (hM.part qpt)) hM.only⟩
theorem uQ{id:Int}{e:Int}(he:e≠0)(h:In.dropE t id=e):In.drop t id=(e,t):=by
 unfold In.drop
 rw[h,qne.2 he]
 rfl
theorem BH{id:Int}(h:In.dropE t id=0):In.drop t id=(0,In.gone (In.holdsDown t id) id):=by
 unfold In.drop
 rw[h]
 rfl
theorem uR{id:Int}{n:NodeD}(hn:In.find t.nodes id=some n):In.dropE t id=if n.holds=0 then 1 else 0:=by
 unfold In.dropE
 rw[hn]
 by_cases h:n.holds=0
 ·simp[h]
 ·simp[h]
theorem BI(h:bR x t zs w0)(I:In.Inv N t)(hN:N≤900000)(id:Int):
  Calls Tryz.prog 176 #[.pointer (some ⟨x.g,0,none⟩),.int .i64 id] w0 fun e w'=>e= .returned (.int .i64 (In.drop t id).1)∧cA x t zs (In.drop t id).2 w0 w':=by
 cases hf:Zd zs id with
 |none=>
  have hM:=St.start w0 []
  have HC:=qh (fun (W:World) (hb:Below w0.heap.size w0 W)=>xZ (h.raw.below hb) hf)
  unfold nodZ at HC
  have HR:=qh (fun (W:World) (hb:Below w0.heap.size w0 W)=>cA.same h hb)
  rw[uQ (e:=3) (by decide) (by unfold In.dropE;rw[show In.find t.nodes id=none by rw[h.find id,hf];rfl])]
  clear h hf I
  simp only
  go_enter Tryz.func176,Tryz.ntmps176
  (refine qw ?_;intros;rename_i hM)
  (refine qCB (HC.out _ hM.to_below) hM ?_;clear hM;intro w' hM)
  (refine qw ?_;intros;rename_i hM)
  (refine qf ?_)
  exact⟨rfl,HR.out _ hM.to_below⟩
 |some y=>
  have hy:=(zu hf).1
  have hn:In.find t.nodes id=some y.1:=by rw[h.find id,hf];rfl
  (obtain⟨g,xs,va,vc,U,rfl,hv,hU,hM,dX,dZ,bW,HB⟩:=XR h)
  obtain⟨ya,yc,bD,-⟩:=zf (h.raw.names y hy)
  have HG:=qh (fun (W:World) (hA:At ((g,true,Res.cells [.int .i64 t.quota,.int .i64 (t.last+1),.slice va zs.length vc] 146)::U) W)=>Zl (bW.out W hA).raw hf)
  rw[NodV.open bD] at HG
  have hh:=I.holds y.1 (h.mem hy)
  by_cases h0:y.1.holds=0
  ·have HE:=qh (uQ (t:=t) (id:=id) (e:=1) (by decide) (by rw[uR hn,if_pos h0]))
   have k0:(y.1.holds==0)=true:=beq_iff_eq.2 h0
   (have HH:=qh h;have HI:=qh I;clear h I hv hU)
   clear h0 hh
   go_enter Tryz.func176,Tryz.ntmps176
   (refine qw ?_;intros;rename_i hM)
   (refine qCB (HG.out _ (hM.part qpt)) hM ?_;clear hM;intro w' hM)
   (refine qw ?_;intros;rename_i hM)
   ((refine qf ?_);(rw[HE.out]);exact⟨rfl,HB.out _ (hM.part qpt) hM.only⟩)
  ·have HE:=qh (BH (t:=t) (id:=id) (by rw[uR hn,if_neg h0]))
   have k0:(y.1.holds==0)=false:=qne.2 h0
   have iX:IntKind.i64.wrap (y.1.holds - 1)=y.1.holds - 1:=Za _ (by omega)
   have HID:=qh (h.ids I)
   have gQ:=qh (show(rset zs ((y.1.setHolds (y.1.holds - 1),y.2):NodV)).map (·.1)=(In.gone (In.holdsDown t id) id).nodes by
    rw[zU,h.nodes]
    show In.bt t.nodes (y.1.setHolds (y.1.holds - 1))=_
    unfold In.holdsDown
    rw[In.at_some hn]
    have hl:0≤y.1.links:=by
     have h1:=I.links y.1 (h.mem hy)
     unfold In.rootI at h1
     split at h1<;> omega
    exact In.gi hn (In.find_some hn).2 hl (by show 0≤y.1.holds - 1;omega))
   have iY:=qh (show NodV.cells (y.1.setHolds (y.1.holds - 1),y.2)=[.int .i64 y.1.id,.bool y.1.dir,.int .i64 y.1.links,.int .i64 (y.1.holds - 1),.string y.1.data,.slice ya y.1.names.length yc] by rw[NodV.open (z:=(y.1.setHolds (y.1.holds - 1),y.2)) bD];rfl)
   (have HH:=qh h;have HI:=qh I;clear h I hv hU)
   clear hh h0 bD
   go_enter Tryz.func176,Tryz.ntmps176
   (refine qw ?_;intros;rename_i hM)
   (refine qCB (HG.out _ (hM.part qpt)) hM ?_;clear hM;intro w' hM)
   (refine qw ?_;intros;rename_i hM)
   (refine qK3 (fun R hR=> ?_))
   rw[←dZ.out] at hM
   have C:=yq dX.out hM qsf HID.out hy (n:=y.1.setHolds (y.1.holds - 1)) rfl rfl
   rw[iY.out] at C
   refine C.mono ?_
   clear C
   rintro e w' ⟨rfl,s2,bm,d_⟩;refine hR.out _ _ ?_;clear hR R hM
   have hM:=bm
   clear bm
   (refine qq ?_)
   (refine qw ?_;intros;rename_i hM)
   (refine qf ?_)
   rw[HE.out]
   refine⟨rfl,s2,_,gQ.out, ?_⟩
   rw[(In.iV (t:=In.holdsDown t id) id).1,(In.iV (t:=In.holdsDown t id) id).2]
   exact d_.to (At.gI (hM.part qpt)) hM.only
end
end
theorem o7{p q:Prop}(k:q)(h:Hd q→p:=by
 intro q1k
 first|refine qD (id:=3) hM (Sub.all _) [2,8] [(0,0),(1,0),(2,1),(3,0),(4,0),(5,0),(6,0),(7,0),(8,1),(9,2),(10,2),(11,2),(12,2)] ?_|fail
 exact q1k.out):p:=h ⟨k⟩
section
open Go.RowKit Go.Maps
section
variable {w w' w0:World}{F:List Nat}{L M:List Ent}{zs:List NodV}{x:RX}{t:TabD}{N:Nat}{q nx:Int}
theorem Xs{id n:Int}(h:In.find t.nodes id=none):In.fileE t id n=3:=by unfold In.fileE;rw[In.dh h];rfl
theorem XY{id n:Int}{y:NodeD}(h:In.find t.nodes id=some y):In.fileE t id n=if y.dir then 12 else if n<0 then 1 else 0:=by
 unfold In.fileE
 rw[In.aI h]
 cases y.dir
 ·by_cases hn:n<0
  ·simp[hn]
  ·simp[hn]
 ·rfl
theorem BJ(h:bR x t zs w){id a b:Int}{y:NodV}(hf:Zd zs id=some y):mS y a b=In.fileE t id (min a b):=by
 rw[XY (y:=y.1) (by rw[h.find id,hf];rfl)]
 unfold mS
 have:(a<0∨b<0)↔min a b<0:=by omega
 simp only[this]
theorem uS(h:bR x t zs w){id a:Int}{y:NodV}(hf:Zd zs id=some y):mS y a 0=In.fileE t id a:=by
 rw[XY (y:=y.1) (by rw[h.find id,hf];rfl)]
 unfold mS
 have:(a<0∨(0:Int)<0)↔a<0:=by omega
 simp only[this]
theorem uT(h:bR x t zs w0)(I:In.Inv N t)(id a n:Int):
  An 179 #[.pointer (some ⟨x.g,0,none⟩),.int .i64 id,.int .i64 a,.int .i64 n] w0 (.tuple #[.string (In.read t id a n),.int .i64 (In.readE t id a n)]):=by
 have hM:=St.start w0 []
 unfold In.read In.readE
 cases hf:Zd zs id with
 |none=>
  have HC:=qh (fun (W:World) (hb:Below w0.heap.size w0 W)=>xi (h.raw.below hb) a n hf)
  unfold nodZ at HC
  rw[Xs (by rw[h.find id,hf];rfl)]
  clear h hf I
  go_enter Tryz.func179,Tryz.ntmps179
  (refine qw ?_;intros;rename_i hM)
  (refine qCB (HC.out _ hM.to_below) hM ?_;clear hM;intro w' hM)
  exact qwf
 |some y=>
  have hy:=(zu hf).1
  have hn:In.find t.nodes id=some y.1:=by rw[h.find id,hf];rfl
  have HC:=qh (fun (W:World) (hb:Below w0.heap.size w0 W)=>xj (h.raw.below hb) a n hf)
  rw[BJ h hf] at HC
  obtain⟨ya,yc,bD,-⟩:=zf (h.raw.names y hy)
  rw[NodV.open bD] at HC
  have hds:=h.dl I y hy
  by_cases hc:In.fileE t id (min a n)=0
  ·rw[hc] at HC ⊢
   rw[In.at_some hn]
   have uU:0≤min a n:=by
    rw[XY hn] at hc
    split at hc
    ·cases hc
    ·split at hc
     ·cases hc
     ·omega
   obtain⟨k,rfl⟩: ∃ k:Nat,a=k:=⟨a.toNat,by omega⟩
   obtain⟨m,rfl⟩: ∃ m:Nat,n=m:=⟨n.toNat,by omega⟩
   by_cases hge:y.1.data.size≤k
   ·have k1:y.1.data.size≤k:=hge
    have HP:=qh (show(if(0:Int)==0 then In.part y.1.data k m else ByteArray.empty)=⟨#[]⟩ by
     show In.part y.1.data k m=_
     unfold In.part
     rw[show min (k:Int).toNat y.1.data.size=y.1.data.size by omega,Nat.sub_self,Nat.min_zero,Nat.add_zero]
     refine Pt.ba_ext ?_
     rw[ByteArray.data_extract]
     simp)
    rw[HP.out]
    clear h hf I hn hc uU hge bD hy
    go_enter Tryz.func179,Tryz.ntmps179
    (refine qw ?_;intros;rename_i hM)
    (refine qCB (HC.out _ hM.to_below) hM ?_;clear hM;intro w' hM)
    exact qwf
   ·have k1:decide (y.1.data.size≤k)=false:=decide_eq_false hge
    obtain⟨l,hl⟩: ∃ l:Nat,y.1.data.size - k=l:=⟨_,rfl⟩
    obtain⟨r,hr⟩: ∃ r:Nat,min m l=r:=⟨_,rfl⟩
    obtain⟨e1,ku⟩: ∃ e1:Nat,k+r=e1:=⟨_,rfl⟩
    have iX:IntKind.i64.wrap ((y.1.data.size:Int) - (k:Int))=(l:Int):=by rw[Za _ (by omega)];omega
    have hw2:(if l<m then(l:Int) else(m:Int))=(r:Int):=by split<;> omega
    have IV:IntKind.i64.wrap ((k:Int)+if l<m then(l:Int) else(m:Int))=(e1:Int):=by rw[hw2,Za _ (by omega)];omega
    have IW:IntKind.i64.wrap ((k:Int)+min (m:Int) (l:Int))=(e1:Int):=by rw[show min (m:Int) (l:Int)=(r:Int) by omega,Za _ (by omega)];omega
    clear hw2
    have q9:=qh (show k≤e1∧e1≤y.1.data.size by omega)
    have HP:=qh (show(if(0:Int)==0 then In.part y.1.data k m else ByteArray.empty)=y.1.data.extract k e1 by
     show In.part y.1.data k m=_
     unfold In.part
     rw[show min (k:Int).toNat y.1.data.size=k by omega,show(m:Int).toNat=m by omega,hl,hr,ku])
    rw[HP.out]
    clear h hf I hn hc uU hge bD hy hl hr ku
    go_enter Tryz.func179,Tryz.ntmps179
    (refine qw ?_;intros;rename_i hM)
    (refine qCB (HC.out _ hM.to_below) hM ?_;clear hM;intro w' hM)
    (refine qw ?_;intros;rename_i hM)
    refine St.strSub rfl rfl rfl rfl rfl rfl Tryz.underlying9 q9.out.1 q9.out.2 ?_
    (refine qq ?_)
    exact qwf
  ·have q1:(In.fileE t id (min a n) != 0)=true:=bne_iff_ne.2 hc
   rw[qne.2 hc,if_neg nofun]
   generalize In.fileE t id (min a n)=c at*
   clear h hf I hn hc bD hy
   go_enter Tryz.func179,Tryz.ntmps179
   (refine qw ?_;intros;rename_i hM)
   (refine qCB (HC.out _ hM.to_below) hM ?_;clear hM;intro w' hM)
   exact qwf
theorem BK(n:Int)(y:NodeD):In.sizedE t y n=if 1048576<n then 5 else if t.quota - t.used<n - y.data.size then 6 else 0:=by
 unfold In.sizedE
 simp only[decide_eq_true_eq]
theorem uV(h:bR x t zs w0)(I:In.Inv N t){y:NodV}(hy:y∈zs)(n:Int)(mr:0≤n):
  An 213 #[.pointer (some ⟨x.g,0,none⟩),.agg y.cells.toArray,.int .i64 n] w0 (.int .i64 (In.sizedE t y.1 n)):=by
 have hM:=St.start w0 []
 have hds:=h.dl I y hy
 have hrow:=h.raw.row
 have hu0:0≤t.used:=by rw[I.used];exact Int.natCast_nonneg _
 have iO:=I.q1
 have hcap:=I.cap
 have HU:=qh (fun (W:World) (hb:Below w0.heap.size w0 W)=>(show Calls _ _ _ _ _ from (by have C:=zal (h.raw.below hb) (h.dl I);rw[h.sum I] at C;exact C)))
 obtain⟨xg,xs⟩:=x
 simp only at hrow HU ⊢
 have c0:w0.cell? ⟨xg,0,none⟩=some (.int .i64 t.quota):=hrow 0 _ rfl
 obtain⟨ya,yc,bD,-⟩:=zf (h.raw.names y hy)
 rw[NodV.open bD,BK]
 obtain⟨p,hp⟩: ∃ p,t.quota - t.used=p:=⟨_,rfl⟩
 have iX:IntKind.i64.wrap (t.quota - t.used)=p:=by rw[Za _ (by omega)];exact hp
 rw[hp]
 clear h I hrow bD hy hp
 by_cases h5:1048576<n
 ·rw[if_pos h5]
  go_enter Tryz.func213,Tryz.ntmps213
  (repeat(first|(refine qW ?_;clear hM;intros;rename_i hM)|((refine qMk ?_);clear hM;intro w bk hM)|((refine o7 ?_);clear hM;intro w hM Kr hKr)))
  exact qfb
 ·have k5:decide (1048576<n)=false:=decide_eq_false h5
  obtain⟨m,hm⟩: ∃ m,n - (y.1.data.size:Int)=m:=⟨_,rfl⟩
  have hw2:IntKind.i64.wrap (n - (y.1.data.size:Int))=m:=by rw[Za _ (by omega)];exact hm
  rw[if_neg h5,hm]
  clear hm
  by_cases h6:p<m
  ·rw[if_pos h6]
   clear h5
   go_enter Tryz.func213,Tryz.ntmps213
   (repeat(first|(refine qW ?_;clear hM;intros;rename_i hM)|((refine qMk ?_);clear hM;intro w bk hM)|((refine o7 ?_);clear hM;intro w hM Kr hKr)))
   (refine qCB (HU.out _ hM.to_below) hM ?_;clear hM;intro w' hM)
   (repeat(first|(refine qW ?_;clear hM;intros;rename_i hM)|((refine qMk ?_);clear hM;intro w bk hM)|((refine o7 ?_);clear hM;intro w hM Kr hKr)))
   exact qfb
  ·rw[if_neg h6]
   have k6:decide (p<m)=false:=decide_eq_false h6
   clear h5 h6
   go_enter Tryz.func213,Tryz.ntmps213
   (repeat(first|(refine qW ?_;clear hM;intros;rename_i hM)|((refine qMk ?_);clear hM;intro w bk hM)|((refine o7 ?_);clear hM;intro w hM Kr hKr)))
   (refine qCB (HU.out _ hM.to_below) hM ?_;clear hM;intro w' hM)
   (repeat(first|(refine qW ?_;clear hM;intros;rename_i hM)|((refine qMk ?_);clear hM;intro w bk hM)|((refine o7 ?_);clear hM;intro w hM Kr hKr)))
   exact qfb
end
end
end Go.Proofs.YtcicjklhbnipcaaGreatDoor
