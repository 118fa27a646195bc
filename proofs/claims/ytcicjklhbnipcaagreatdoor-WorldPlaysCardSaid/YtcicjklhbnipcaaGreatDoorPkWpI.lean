/-
  Laid texts.
-/
import Derived.Test.YtcicjklhbnipcaaGreatDoorPkWpH
set_option maxHeartbeats 16000000
set_option maxRecDepth 1000000
set_option linter.unusedVariables false
set_option linter.unusedSimpArgs false
namespace Go.Proofs.YtcicjklhbnipcaaGreatDoor
section
namespace Pt
/-! ### bytes parted at slashes -/
def sp(s:List UInt8):List (List UInt8):=Lib.splitK [47] 0 (s.count 47) s
theorem vh(c:UInt8)(s:List UInt8):Lib.index (c::s) [47]=if c=47 then 0 else if Lib.index s [47]= -1 then -1 else Lib.index s [47]+1:=by
 rw[Lib.index]
 by_cases h:c=47
 ·subst h;simp[List.isPrefixOf]
 ·have:([47]:List UInt8).isPrefixOf (c::s)=false:=by simp[List.isPrefixOf,Ne.symm h]
  rw[this,if_neg h]
  simp[beq_iff_eq]
theorem Co{c:UInt8}(h:c≠47): ∀ (k:Nat) (s:List UInt8),Lib.splitK [47] 0 k (c::s)=match Lib.splitK [47] 0 k s with|[]=>[[c]]|x::r=>(c::x)::r
 |0,s=>rfl
 |k+1,s=>by
  unfold Lib.splitK
  rw[vh,if_neg h]
  by_cases hm:Lib.index s [47]= -1
  ·simp[hm]
  ·have hg:=Lib.index_ge s [47]
   obtain⟨j,hj⟩: ∃ j:Nat,Lib.index s [47]=j:=⟨(Lib.index s [47]).toNat,by omega⟩
   rw[if_neg hm,hj]
   rw[if_neg (by rw[beq_iff_eq];omega),if_neg (by rw[beq_iff_eq];omega)]
   have e1:((j:Int)+1).toNat=j+1:=by omega
   have e2:(j:Int).toNat=j:=by omega
   rw[e1,e2]
   simp
theorem kN:sp []=[[]]:=rfl
theorem xS(s:List UInt8):sp (47::s)=[]::sp s:=by
 unfold sp
 rw[show(47::s:List UInt8).count 47=s.count 47+1 by simp]
 rw[Lib.splitK,vh,if_pos rfl]
 simp
theorem oB{c:UInt8}(h:c≠47)(s:List UInt8):sp (c::s)=match sp s with|[]=>[[c]]|x::r=>(c::x)::r:=by
 unfold sp
 rw[List.count_cons_of_ne (by simpa using h)]
 exact Co h _ s
theorem Xn: ∀ s,∃ x r,sp s=x::r
 |[]=>⟨[],[],rfl⟩
 |c::s=>by
  by_cases h:c=47
  ·subst h;exact⟨[],sp s,xS s⟩
  ·obtain⟨x,r,hx⟩:=Xn s
   rw[oB h,hx]
   exact⟨c::x,r,rfl⟩
theorem rj: ∀ (s x:List UInt8),x∈sp s→(47:UInt8)∉x
 |[],x,hx=>by
  rw[kN] at hx
  rcases laGz.1 hx with rfl
  simp
 |c::s,x,hx=>by
  by_cases h:c=47
  ·subst h
   rw[xS] at hx
   rcases laBz.1 hx with rfl|hx
   ·simp
   ·exact rj s x hx
  ·obtain⟨y,r,hy⟩:=Xn s
   rw[oB h,hy] at hx
   rcases laBz.1 hx with rfl|hx
   ·have:=rj s y (by rw[hy];exact .head _)
    simp only[laBz,not_or]
    exact⟨fun e=>h e.symm,this⟩
   ·exact rj s x (by rw[hy];exact .tail _ hx)
theorem YU(x y:List UInt8)(r:List (List UInt8)):Lib.join (x::y::r) [47]=x++47::Lib.join (y::r) [47]:=by
 rw[Lib.join_cons,Lib.join_cons]
 simp[Lib.joinTail]
theorem vi: ∀ s,Lib.join (sp s) [47]=s
 |[]=>rfl
 |c::s=>by
  obtain⟨y,r,hy⟩:=Xn s
  have ih:=vi s
  by_cases h:c=47
  ·subst h
   rw[xS,hy,YU,←hy,ih]
   rfl
  ·rw[oB h,hy]
   rw[hy] at ih
   cases r with
   |nil=>rw[Lib.join_one] at ih ⊢;rw[ih]
   |cons z r=>rw[YU] at ih ⊢;rw[laIz,ih]
theorem vj: ∀ (x t:List UInt8),(47:UInt8)∉x→sp (x++47::t)=x::sp t
 |[],t,_=>xS t
 |c::x,t,h=>by
  simp only[laBz,not_or] at h
  rw[laIz,oB (fun e=>h.1 e.symm),vj x t h.2]
theorem vk: ∀ (x:List UInt8),(47:UInt8)∉x→sp x=[x]
 |[],_=>rfl
 |c::x,h=>by
  simp only[laBz,not_or] at h
  rw[oB (fun e=>h.1 e.symm),vk x h.2]
theorem vl: ∀ (x:List UInt8) (r:List (List UInt8)),(∀ y∈x::r,(47:UInt8)∉y)→sp (Lib.join (x::r) [47])=x::r
 |x,[],h=>by rw[Lib.join_one];exact vk x (h x (.head _))
 |x,y::r,h=>by
  rw[YU,vj _ _ (h x (.head _)),vl y r fun z hz=>h z (.tail _ hz)]
/-! ### names,paths -/
def mk(l:List UInt8):ByteArray:=⟨l.toArray⟩
theorem cV{p:ByteArray}(h:p.size≠0):parts p=(sp p.data.toList).map mk:=by
 unfold parts
 rw[if_neg h]
 have key: ∀ (k:Nat) (s:ByteArray),(Lib.splitB slash 0 k s).map (·.data.toList)=Lib.splitK [47] 0 k s.data.toList:=fun k s=>Lib.splitB_data slash 0 k s
 have hc:Lib.countB p slash=p.data.toList.count 47:=by
  have:Lib.countB p slash=Lib.count p.data.toList [47]:=rfl
  rw[this,Lib.count_one]
 rw[hc]
 unfold sp
 rw[←key,lbZz]
 exact(List.map_id _).symm
def aA(s:ByteArray):Prop:=isName s=true∧(47:UInt8)∉s.data.toList
theorem aA.size{s:ByteArray}(h:aA s):s.size≠0:=by
 have:=h.1
 unfold isName at this
 simp only[Bool.and_eq_true,decide_eq_true_eq] at this
 omega
theorem aA.nil{s:ByteArray}(h:aA s):s.data.toList≠[]:=fun e=>h.size (ZE.2 e)
theorem Cp:joined []=⟨#[]⟩:=rfl
theorem ZV(l:List ByteArray):(joined l).data.toList=Lib.join (l.map (·.data.toList)) [47]:=rfl
theorem xv{x:ByteArray}{r:List ByteArray}(h:aA x):(joined (x::r)).size≠0:=fun e=>by
 have:=ZE.1 e
 rw[ZV,laDz,Lib.join_cons] at this
 exact h.nil (List.append_eq_nil_iff.1 this).1
theorem aU: ∀ {l:List ByteArray},(∀ s∈l,aA s)→parts (joined l)=l
 |[],_=>rfl
 |x::r,h=>by
  rw[cV (xv (h x (.head _))),ZV,laDz,vl _ _ (fun y hy=>by
   rcases laBz.1 hy with rfl|hy
   ·exact(h x (.head _)).2
   ·obtain⟨z,hz,rfl⟩:=laKz.1 hy
    exact(h z (.tail _ hz)).2)]
  show List.map mk ((x::r).map (·.data.toList))=_
  rw[lbZz]
  exact List.map_id _
structure oC (l:List ByteArray):Prop where
 ne:l≠[]
 names: ∀ s∈l,aA s
 few:l.length≤8
 short:(joined l).size≤96
theorem Xe: ∀ {ps l:List ByteArray},scan ps=some l→(∀ s∈l,isName s=true∧s∈ps)
 |[],l,h=>by cases h;exact nofun
 |n::r,l,h=>by
  unfold scan at h
  split at h
  ·exact fun s hs=>⟨(Xe h s hs).1,.tail _ (Xe h s hs).2⟩
  split at h
  ·rename_i hn
   obtain⟨l',h1,rfl⟩:=Option.map_eq_some_iff.1 h
   intro s hs
   rcases laBz.1 hs with rfl|hs
   ·exact⟨hn,.head _⟩
   ·exact⟨(Xe h1 s hs).1,.tail _ (Xe h1 s hs).2⟩
  ·cases h
theorem vm{p:ByteArray}(h:isPath p=true):oC (parts p)∧joined (parts p)=p:=by
 unfold isPath at h
 simp only[Bool.and_eq_true,decide_eq_true_eq,Bool.not_eq_true'] at h
 obtain⟨⟨h1,h2⟩,h3⟩:=h
 have hp:p.size≠0:=fun e=>by rw[ZE.1 e] at h3;cases h3
 have h2:=eq_of_beq h2
 unfold clean at h1 h2
 cases hs:scan (parts p) with
 |none=>rw[hs] at h1;simp at h1
 |some l=>
  rw[hs] at h1 h2
  simp only at h1 h2
  unfold cleanOf at h1 h2
  split at h1
  ·simp at h1
  ·rename_i hc
   rw[if_neg hc] at h2
   simp only[Bool.or_eq_true,decide_eq_true_eq,not_or] at hc
   have e:joined l=p:=ba_ext h2
   have hn: ∀ s∈l,aA s:=fun s hs'=>by
    obtain⟨g1,g2⟩:=Xe hs s hs'
    refine⟨g1, ?_⟩
    rw[cV hp] at g2
    obtain⟨x,hx,rfl⟩:=laKz.1 g2
    exact rj _ x hx
   have hl:parts p=l:=by rw[←e];exact aU hn
   rw[hl]
   refine⟨⟨fun h0=>hp ?_,hn,by omega,by omega⟩,e⟩
   rw[←e,h0]
   rfl
theorem vn: ∀ {l:List ByteArray},(∀ s∈l,aA s)→scan l=some l
 |[],_=>rfl
 |x::r,h=>by
  have hx:=h x (.head _)
  have Cq:x.data.toList≠[46]:=fun e=>by
   have:=hx.1
   unfold isName at this
   rw[e] at this
   cases this
  unfold scan
  rw[if_neg (not_or.2 ⟨hx.nil,Cq⟩),if_pos hx.1,vn fun s hs=>h s (.tail _ hs)]
  rfl
theorem dx{l:List ByteArray}(h:oC l):isPath (joined l)=true:=by
 obtain⟨x,r,rfl⟩: ∃ x r,l=x::r:=by
  cases l with
  |nil=>exact absurd rfl h.ne
  |cons x r=>exact⟨x,r,rfl⟩
 have hx:=h.names x (.head _)
 have hc:clean (joined (x::r))=(joined (x::r),0):=by
  unfold clean
  rw[aU h.names,vn h.names]
  simp only
  unfold cleanOf
  rw[if_neg]
  have h1:=h.few
  have h2:=h.short
  simp only[Bool.or_eq_true,decide_eq_true_eq,not_or]
  refine⟨⟨?_,by omega⟩,by omega⟩
  rw[ZV,laDz,Lib.join_cons]
  have hn:=hx.nil
  have hs:=hx.2
  cases hd:x.data.toList with
  |nil=>exact absurd hd hn
  |cons c t=>
   rw[hd] at hs
   simp only[laBz,not_or] at hs
   unfold Lib.hasPrefix
   simp[List.isPrefixOf,hs.1]
 unfold isPath
 rw[hc]
 have:(joined (x::r)).data.toList≠[]:=fun e=>xv (r:=r) hx (ZE.2 e)
 simp only[decide_true,beq_self_eq_true,Bool.true_and,Bool.not_eq_true',beq_eq_false_iff_ne]
 exact this
theorem vo: ∀ (q:List (List UInt8)) (s:List UInt8),q≠[]→Lib.join (q++[s]) [47]=Lib.join q [47]++47::s
 |[],_,h=>absurd rfl h
 |[x],s,_=>by rw[lcSz,YU,Lib.join_one,Lib.join_one]
 |x::y::r,s,_=>by
  have ih:=vo (y::r) s (by simp)
  rw[laIz,laIz,YU,←laIz,ih,YU]
  simp
theorem vp{q:List ByteArray}{s:ByteArray}(hq:q≠[]):(joined (q++[s])).data.toList=(joined q).data.toList++47::s.data.toList:=by
 rw[ZV,laMz,ldDz,vo _ _ (by simpa using hq)]
 rfl
theorem dD(s:ByteArray):joined [s]=s:=ba_ext (by rw[ZV,ldDz,Lib.join_one])
theorem rk(s:List UInt8)(k:Nat):Lib.occAt s [47] k=true↔s[k]? =some 47:=by
 unfold Lib.occAt
 constructor
 ·intro h
  cases hd:s.drop k with
  |nil=>rw[hd] at h;simp[List.isPrefixOf] at h
  |cons c t=>
   rw[hd] at h
   have hc:c=47:=by
    simp[List.isPrefixOf] at h
    exact h.symm
   have:(s.drop k)[0]? =some c:=by rw[hd];rfl
   rw[lcFz] at this
   rw[←hc]
   simpa using this
 ·intro h
  have hk:=(laHz.1 h).1
  rw[lbIz hk]
  have:s[k]=47:=(laHz.1 h).2
  simp[List.isPrefixOf,this]
theorem Cr{s:ByteArray}(h:(47:UInt8)∉s.data.toList):last s= -1:=by
 unfold last Lib.lastIndex
 split
 ·rcases Lib.lastOcc_spec s.data.toList [47] (s.data.toList.length - [47].length+1) with ⟨h1,-⟩|⟨i,-,-,h3,-⟩
  ·exact h1
  ·exact absurd (laQz ((rk _ _).1 h3)) h
 ·rfl
theorem Cs{p:ByteArray}{a b:List UInt8}(hp:p.data.toList=a++47::b)(hb:(47:UInt8)∉b):last p=a.length:=by
 unfold last Lib.lastIndex
 have hl:p.data.toList.length=a.length+b.length+1:=by rw[hp];simp;omega
 rw[if_pos (by rw[hl];simp)]
 have h47:p.data.toList[a.length]? =some 47:=by rw[hp];simp
 rcases Lib.lastOcc_spec p.data.toList [47] (p.data.toList.length - [47].length+1) with ⟨-,h1⟩|⟨i,h1,h2,h3,h4⟩
 ·have:=h1 a.length (by rw[hl];simp;omega)
  rw[(rk _ _).2 h47] at this
  cases this
 ·refine h2.trans ?_
  have hi:i=a.length:=by
   rcases Nat.lt_trichotomy i a.length with h|h|h
   ·have:=h4 a.length h (by rw[hl];simp;omega)
    rw[(rk _ _).2 h47] at this
    cases this
   ·exact h
   ·exfalso
    have h5:=(rk _ _).1 h3
    rw[hp,ldCz (by omega)] at h5
    obtain⟨m,hm⟩: ∃ m,i - a.length=m+1:=⟨i - a.length - 1,by omega⟩
    rw[hm,lbFz] at h5
    exact hb (laQz h5)
  rw[hi]
theorem dN{q:List ByteArray}{s:ByteArray}(hs:aA s):split (joined (q++[s]))=(joined q,s):=by
 cases q with
 |nil=>
  rw[laJz,dD]
  unfold split
  rw[if_pos (by rw[Cr hs.2];decide)]
  rfl
 |cons x r=>
  have hd:=vp (q:=x::r) (s:=s) (by simp)
  have hl:=Cs hd hs.2
  unfold split
  rw[if_neg (by omega),hl,Int.toNat_natCast]
  have hz:(joined (x::r++[s])).size=(joined (x::r)).data.toList.length+s.data.toList.length+1:=by rw[Lib.size_eq,hd];simp;omega
  refine Prod.ext (ba_ext ?_) (ba_ext ?_)
  ·simp only[ByteArray.data_extract,Array.toList_extract]
   rw[hd]
   simp
  ·simp only[ByteArray.data_extract,Array.toList_extract]
   rw[hd,hz]
   have e:(joined (x::r)).data.toList++47::s.data.toList=((joined (x::r)).data.toList++[47])++s.data.toList:=by simp
   rw[List.extract_eq_take_drop,e,List.drop_left' (by simp)]
   exact ldNz (by omega)
theorem eP{p:ByteArray}(h:isPath p=true): ∃ q s,parts p=q++[s]∧parts (split p).1=q∧(split p).2=s∧oC (q++[s])∧joined (q++[s])=p:=by
 obtain⟨h1,h2⟩:=vm h
 obtain⟨q,s,hq⟩: ∃ q s,parts p=q++[s]:=⟨(parts p).dropLast,(parts p).getLast h1.ne,(List.dropLast_concat_getLast h1.ne).symm⟩
 rw[hq] at h1 h2
 have hs:=h1.names s (by simp)
 have hsp:=dN (q:=q) hs
 rw[h2] at hsp
 refine⟨q,s,hq, ?_,by rw[hsp],h1,h2⟩
 rw[hsp]
 exact aU fun x hx=>h1.names x (by simp[hx])
end Pt
end
section
open Go.RowKit Go.Maps
namespace Pt
def glue(x:List UInt8):List (List UInt8)→List (List UInt8)
 |[]=>[x]
 |y::r=>(x++y)::r
theorem ia(s:List UInt8):glue [] (sp s)=sp s:=by
 obtain⟨x,r,h⟩:=Xn s
 rw[h]
 rfl
theorem jb(x s:List UInt8):glue x (sp (47::s))=x::glue [] (sp s):=by
 rw[xS,ia]
 simp[glue]
theorem lR{c:UInt8}(h:c≠47)(x s:List UInt8):glue x (sp (c::s))=glue (x++[c]) (sp s):=by
 obtain⟨y,r,hy⟩:=Xn s
 rw[oB h,hy]
 simp[glue]
end Pt
theorem Ct{s:ByteArray}{k:Nat}{c:UInt8}(h:s.data.toList[k]? =some c):s.extract k (k+1)=⟨#[c]⟩:=by
 refine Pt.ba_ext ?_
 simp only[ByteArray.data_extract,Array.toList_extract]
 have hk:=(laHz.1 h).1
 rw[List.extract_eq_take_drop,lbIz hk,(laHz.1 h).2]
 simp
theorem Yl(p:ByteArray)(w:World)(hp:p.size≤1000000):Calls Tryz.prog 128 #[.string p] w (znq (Pt.parts p) w):=by
 have hM:=St.start w []
 by_cases h0:p.size=0
 ·have e:Pt.parts p=[]:=if_pos h0
  rw[e]
  have hq:=Zn (ZE.1 h0)
  clear h0 hp
  go_enter Tryz.func128,Tryz.ntmps128
  (refine qw ?_;intros;rename_i hM)
  (refine qf ?_)
  exact⟨none,rfl,⟨rfl,rfl⟩,hM⟩
 ·have e:Pt.parts p=(Pt.sp p.data.toList).map Pt.mk:=Pt.cV h0
  have hq:=Zt (l:=[]) (fun h=>h0 (ZE.2 h))
  rw[e]
  have hz:p.size=p.data.toList.length:=Lib.size_eq p
  generalize hl:p.data.toList=l at*
  go_enter Tryz.func128,Tryz.ntmps128
  (refine qw ?_;intros;rename_i hM)
  go_loopw [3,4,5] (fun o t i wr=> ∃ (k:Nat) (s:Option (Nat×Nat)) (xs:List ByteArray) (y:ByteArray),k≤l.length∧o=slV s xs.length∧t= .string y∧i= .int .i64 k∧xs.length≤k∧y.size≤k∧Hid (xs.map (·.data.toList)++Pt.glue y.data.toList (Pt.sp (l.drop k))=Pt.sp l)∧TxOK s xs∧St w [] wr (txL s xs)) (fun _ _ i _=>l.length - (intOf i).toNat)
  case atStart=>exact⟨0,none,[],⟨#[]⟩,by omega,rfl,rfl,rfl,Nat.le_refl _,Nat.le_refl _,qh (by rw[ldBz];exact Pt.ia l),⟨rfl,rfl⟩,hM⟩
  case round=>
   clear hM
   obtain⟨k,s,xs,y,hk,rfl,rfl,rfl,mz,hyk,HG,hok,hM⟩:=hrel
   have HOK:=qh hok
   clear hok
   obtain⟨va,vc,hv,hva⟩:=zf HOK.out
   by_cases hlt:k<l.length
   ·obtain⟨c,hc⟩:=zK hlt
    have hd:l.drop k=c::l.drop (k+1):=by rw[lbIz hlt,(laHz.1 hc).2]
    have hc':p.data.toList[k]? =some c:=by rw[hl];exact hc
    have k1:(k:Int)<(p.size:Int):=by omega
    have hkp:k<p.size:=by omega
    have hpc:p[k]'hkp=c:=by
     have:=(laHz.1 hc').2
     rw[←this]
     rfl
    by_cases h47:c=47
    ·subst h47
     have sB:(((p[k]'hkp).toNat:Int)==47)=true:=by rw[hpc];rfl
     clear hpc
     have kO:=HG.out
     rw[hd,Pt.jb] at kO
     have HH:=qh kO
     clear HG kO hd hc
     rw[hv]
     (refine qw ?_;intros;rename_i hM)
     rw[←hv]
     refine St.append (s:=s) (n:=xs.length) (xs:=xs.map Value.string) rfl hM rfl rfl rfl rfl rfl (by kernel_rfl) qsf HOK.out rfl (hM.news qm) rfl (by rw[zj];omega) (by omega) (fun h=>by cases h) ?_
     clear hM;intro w s' hM hk' hs'
     simp only[Res.known] at hM hk'
     have e1:xs.map Value.string++[Value.string y]=(xs++[y]).map Value.string:=by simp
     have e2:xs.length+1=(xs++[y]).length:=by simp
     rw[e1] at hM hk'
     rw[e2] at hk'
     rw[e2]
     have HK':=qh hk'
     clear hk' hs' HOK
     have Cu:=qh (show(xs++[y]).map (·.data.toList)++Pt.glue (⟨#[]⟩:ByteArray).data.toList (Pt.sp (l.drop (k+1)))=Pt.sp l from by rw[←HH.out];simp)
     have mA:(xs++[y]).length≤k+1:=by rw[laNz,lbQz];omega
     obtain⟨Cv,Cw,eh,-⟩:=zf HK'.out
     rw[eh]
     (refine qq ?_)
     (refine qw ?_;intros;rename_i hM)
     replace hM:=hM.forget
     simp only[Exit.then]
     rw[←eh]
     (refine⟨?_,qio⟩;repeat(first|exact⟨⟨k+1,s',xs++[y],⟨#[]⟩,by omega,rfl,rfl,rfl,mA,Nat.zero_le _,Cu,HK'.out,hM⟩,rfl⟩|apply Exists.intro))
    ·have kO:=HG.out
     rw[hd,Pt.lR h47] at kO
     have vq:((c.toNat:Int)==47)=false:=by
      rw[beq_eq_false_iff_ne]
      intro e
      apply h47
      have:c.toNat=47:=by omega
      exact UInt8.toNat_inj.1 this
     have hex:p.extract k (k+1)=⟨#[c]⟩:=Ct hc'
     have sB:(((p[k]'hkp).toNat:Int)==47)=false:=by rw[hpc];exact vq
     clear hpc vq
     have HH:=qh (show xs.map (·.data.toList)++Pt.glue (y++⟨#[c]⟩:ByteArray).data.toList (Pt.sp (l.drop (k+1)))=Pt.sp l from by rw[←kO];simp)
     have oy:(y++⟨#[c]⟩:ByteArray).size≤k+1:=by rw[ByteArray.size_append];show y.size+1≤_;omega
     clear HG kO hd hc
     rw[hv]
     (refine qw ?_;intros;rename_i hM)
     refine St.strSub (i:=k) (j:=k+1) rfl rfl rfl rfl rfl rfl Tryz.underlying9 (by omega) (by omega) ?_
     rw[hex]
     (refine qq ?_)
     (refine qw ?_;intros;rename_i hM)
     simp only[Exit.then]
     rw[←hv]
     (refine⟨?_,qio⟩;repeat(first|exact⟨⟨k+1,s,xs,y++⟨#[c]⟩,by omega,rfl,rfl,rfl,by omega,oy,HH,HOK.out,hM⟩,rfl⟩|apply Exists.intro))
   ·have k0:¬((k:Int)<(p.size:Int)):=by omega
    obtain rfl:k=l.length:=by omega
    have kO:=HG.out
    rw[lcPz,Pt.kN] at kO
    have pj:(Pt.sp l).map Pt.mk=xs++[y]:=by
     rw[←kO,laMz,lbZz]
     show List.map (fun b:ByteArray=>b) xs++[Pt.mk (y.data.toList++[])]=_
     rw[List.map_id',laYz]
     rfl
    have oD:=qh pj
    clear hlt HG kO pj
    rw[hv]
    (refine qw ?_;intros;rename_i hM)
    rw[←hv]
    refine St.append (s:=s) (n:=xs.length) (xs:=xs.map Value.string) rfl hM rfl rfl rfl rfl rfl (by kernel_rfl) qsf HOK.out rfl (hM.news qm) rfl (by rw[zj];omega) (by omega) (fun h=>by cases h) ?_
    clear hM;intro w s' hM hk' hs'
    simp only[Res.known] at hM hk'
    have e1:xs.map Value.string++[Value.string y]=(xs++[y]).map Value.string:=by simp
    have e2:xs.length+1=(xs++[y]).length:=by simp
    rw[e1] at hM hk'
    rw[e2] at hk'
    rw[e2]
    have HK':=qh hk'
    clear hk' hs' HOK
    obtain⟨Cv,Cw,eh,-⟩:=zf HK'.out
    rw[eh]
    (refine qq ?_)
    (refine qw ?_;intros;rename_i hM)
    rw[←eh]
    (refine qf ?_)
    rw[oD.out]
    exact⟨s',rfl,HK'.out,hM.forget⟩
end
section
open Go.RowKit Go.Maps
theorem Cx(s:ByteArray)(w:World)(hs:s.size≤1000000000):An 211 #[.string s] w (.bool (In.isName s)):=by
 have hM:=St.start w []
 have hz:s.size=s.data.toList.length:=Lib.size_eq s
 obtain⟨B,hB⟩: ∃ B,In.isName s=B:=⟨_,rfl⟩
 rw[hB]
 have HB:=qh hB
 clear hB
 generalize hl:s.data.toList=l at*
 have HL:=qh hl
 have HZ:=qh hz
 clear hz
 go_enter Tryz.func211,Tryz.ntmps211
 (refine qw ?_;intros;rename_i hM)
 go_loopw [3] (fun i wr=> ∃ k:Nat,k≤l.length∧i= .int .i64 k∧Hid ((l.take k).any badN=false)∧St w [] wr []) (fun i _=>l.length - (intOf i).toNat)
 case atStart=>exact⟨0,by omega,rfl,qh rfl,hM⟩
 case round=>
  clear hM
  obtain⟨k,hk,rfl,HF,hM⟩:=hrel
  by_cases hlt:k<l.length
  ·obtain⟨c,hc⟩:=zK hlt
   have hc':s.data.toList[k]? =some c:=by rw[hl];exact hc
   have k1:(k:Int)<(s.size:Int):=by have:=HZ.out;omega
   have hkp:k<s.size:=by have:=HZ.out;omega
   have hpc:s[k]'hkp=c:=by
    have:=(laHz.1 hc').2
    rw[←this]
    rfl
   have ht:(l.take (k+1)).any badN=((l.take k).any badN||badN c):=by rw[lbJz,hc,Option.toList_some,List.any_append];simp
   rw[HF.out,Bool.false_or] at ht
   by_cases h0:c=0
   ·subst h0
    have q0:(((s[k]'hkp).toNat:Int)==0)=true:=by rw[hpc];rfl
    have HE:=qh (show B=false by
     rw[←HB.out]
     refine xa ?_
     rw[HL.out,ldMz]
     exact⟨0,laQz hc,rfl⟩)
    clear hpc hc hc' ht HF
    (refine qw ?_;intros;rename_i hM)
    (refine qf ?_)
    exact⟨by rw[HE.out];rfl,hM.to_below⟩
   ·have q0:(((s[k]'hkp).toNat:Int)==0)=false:=by
     rw[hpc,beq_eq_false_iff_ne]
     intro e
     apply h0
     have:c.toNat=0:=by omega
     exact UInt8.toNat_inj.1 this
    by_cases h47:c=47
    ·subst h47
     have q1:(((s[k]'hkp).toNat:Int)==47)=true:=by rw[hpc];rfl
     have HE:=qh (show B=false by
      rw[←HB.out]
      refine xa ?_
      rw[HL.out,ldMz]
      exact⟨47,laQz hc,rfl⟩)
     clear hpc hc hc' ht HF h0
     (refine qw ?_;intros;rename_i hM)
     (refine qf ?_)
     exact⟨by rw[HE.out];rfl,hM.to_below⟩
    ·have q1:(((s[k]'hkp).toNat:Int)==47)=false:=by
      rw[hpc,beq_eq_false_iff_ne]
      intro e
      apply h47
      have:c.toNat=47:=by omega
      exact UInt8.toNat_inj.1 this
     have HF2:=qh (show(l.take (k+1)).any badN=false by rw[ht];simp[badN,h0,h47])
     clear hpc hc hc' ht HF h0 h47
     (refine qw ?_;intros;rename_i hM)
     (try simp only[Exit.then])
     (refine⟨?_,qio⟩;repeat(first|exact⟨⟨k+1,by omega,rfl,HF2,hM⟩,rfl⟩|apply Exists.intro))
  ·have k0:¬((k:Int)<(s.size:Int)):=by have:=HZ.out;omega
   obtain rfl:k=l.length:=by omega
   have HF':=HF.out
   rw[lbSz] at HF'
   have hg:=zaQ (s:=s) (by rw[HL.out];exact HF')
   rw[HB.out,HL.out] at hg
   have HG:=qh hg
   clear hlt hk HF HF' hg hl
   by_cases h1:1≤s.size
   ·have e1:decide ((1:Int)≤(s.size:Int))=true:=decide_eq_true (by omega)
    by_cases h2:s.size≤32
    ·have e2:decide ((s.size:Int)≤(32:Int))=true:=decide_eq_true (by omega)
     by_cases h3:s=⟨#[46]⟩
     ·have e3:=Zn (s:=s) (l:=[46]) (by rw[h3])
      have HE:=qh (show B=false by rw[HG.out,←HL.out,h3];simp)
      clear h1 h2 h3
      (refine qw ?_;intros;rename_i hM)
      (refine qf ?_)
      exact⟨by rw[HE.out];rfl,hM.to_below⟩
     ·have e3:=Zt (s:=s) (l:=[46]) (fun e=>h3 (Pt.ba_ext e))
      by_cases h4:s=⟨#[46,46]⟩
      ·have e4:=Zn (s:=s) (l:=[46,46]) (by rw[h4])
       have HE:=qh (show B=false by rw[HG.out,←HL.out,h4];simp)
       clear h1 h2 h3 h4
       (refine qw ?_;intros;rename_i hM)
       (refine qf ?_)
       exact⟨by rw[HE.out];rfl,hM.to_below⟩
      ·have e4:=Zt (s:=s) (l:=[46,46]) (fun e=>h4 (Pt.ba_ext e))
       have HE:=qh (show B=true by
        have n3:l≠[46]:=fun e=>h3 (Pt.ba_ext (by rw[HL.out,e]))
        have n4:l≠[46,46]:=fun e=>h4 (Pt.ba_ext (by rw[HL.out,e]))
        rw[HG.out]
        simp[h1,h2,n3,n4])
       clear h1 h2 h3 h4
       (refine qw ?_;intros;rename_i hM)
       (refine qf ?_)
       exact⟨by rw[HE.out];rfl,hM.to_below⟩
    ·have e2:decide ((s.size:Int)≤(32:Int))=false:=decide_eq_false (by omega)
     have HE:=qh (show B=false by rw[HG.out];simp[h2])
     clear h1 h2
     (refine qw ?_;intros;rename_i hM)
     (refine qf ?_)
     exact⟨by rw[HE.out];rfl,hM.to_below⟩
   ·have e1:decide ((1:Int)≤(s.size:Int))=false:=decide_eq_false (by omega)
    have HE:=qh (show B=false by rw[HG.out];simp[h1])
    clear h1
    (refine qw ?_;intros;rename_i hM)
    (refine qf ?_)
    exact⟨by rw[HE.out];rfl,hM.to_below⟩
def Pt.gT(p:ByteArray):Bool:=(Pt.parts p).all In.isName&&decide ((Pt.parts p).length≤8)&&decide (p.size≤96)
theorem Cy(p:ByteArray)(w0:World)(hp:p.size≤1000000)(hl:(Pt.parts p).length≤1000001)(hz: ∀ s∈Pt.parts p,s.size≤1000000000):An 177 #[.string p] w0 (.bool (Pt.gT p)):=by
 have hM:=St.start w0 []
 have HP:=qh (fun W=>Yl p W hp)
 unfold Pt.gT
 generalize Pt.parts p=l at*
 have HZ:=qh hz
 clear hz
 obtain⟨B,hB⟩: ∃ B,(l.all In.isName&&decide (l.length≤8)&&decide (p.size≤96))=B:=⟨_,rfl⟩
 rw[hB]
 have HB:=qh hB
 clear hB
 go_enter Tryz.func177,Tryz.ntmps177
 (refine qw ?_;intros;rename_i hM)
 (refine qK3 (fun R hR=> ?_))
 refine(HP.out _).mono ?_
 rintro e w' ⟨s,rfl,hok,hst⟩;refine hR.out _ _ ?_;clear hR R
 replace hM:=hM.madeM hst (zL _ _)
 rw[laYz] at hM
 have HOK:=qh hok
 obtain⟨ua,uc,hu,j6⟩:=zf hok
 rw[hu]
 clear hst hok HP
 (refine qq ?_)
 (refine qw ?_;intros;rename_i hM)
 go_loopw [4] (fun i wr=> ∃ k:Nat,k≤l.length∧i= .int .i64 k∧Hid ((l.take k).all In.isName=true)∧St w0 [] wr (txL s l)) (fun i _=>l.length - (intOf i).toNat)
 case atStart=>exact⟨0,by omega,rfl,qh rfl,hM⟩
 case round=>
  clear hM
  obtain⟨k,hk,rfl,HF,hM⟩:=hrel
  by_cases hlt:k<l.length
  ·obtain⟨y,hy⟩:=zK hlt
   have k1:(k:Int)<(l.length:Int):=by omega
   rcases s with _|⟨g1,cap1⟩
   ·exact absurd HOK.out.2 (by omega)
   obtain⟨rfl,rfl⟩:=j6 g1 cap1 rfl
   have HI:=qh (fun W=>Cx y W (HZ.out y (laQz hy)))
   have hv:(l.map Value.string)[k]? =some (.string y):=by rw[lbCz,hy];rfl
   cases hn:In.isName y with
   |true=>
    rw[hn] at HI
    have HF2:=qh (show(l.take (k+1)).all In.isName=true by rw[lbJz,hy,Option.toList_some,ldOz,HF.out];simp[hn])
    clear HF hy hn
    (refine qw ?_;intros;rename_i hM)
    (refine qCB (HI.out _) hM ?_;clear hM;intro w' hM)
    (refine qw ?_;intros;rename_i hM)
    (try simp only[Exit.then])
    (refine⟨?_,qio⟩;repeat(first|exact⟨⟨k+1,by omega,rfl,HF2,hM⟩,rfl⟩|apply Exists.intro))
   |false=>
    rw[hn] at HI
    have HE:=qh (show B=false by
     rw[←HB.out]
     have:l.all In.isName=false:=by
      rw[List.all_eq_false]
      exact⟨y,laQz hy,by rw[hn];nofun⟩
     rw[this]
     rfl)
    clear HF hy hn
    (refine qw ?_;intros;rename_i hM)
    (refine qCB (HI.out _) hM ?_;clear hM;intro w' hM)
    (refine qw ?_;intros;rename_i hM)
    (refine qf ?_)
    exact⟨by rw[HE.out];rfl,hM.to_below⟩
  ·have k0:¬((k:Int)<(l.length:Int)):=by omega
   obtain rfl:k=l.length:=by omega
   have hF:=HF.out
   rw[lbSz] at hF
   have hb:=HB.out
   rw[hF,Bool.true_and] at hb
   clear hlt hk HF hF
   by_cases h8:l.length≤8
   ·have k8:(l.length:Int)≤8:=by omega
    by_cases h9:p.size≤96
    ·have k9:(p.size:Int)≤96:=by omega
     have HE:=qh (show B=true by rw[←hb];simp[h8,h9])
     clear hb h8 h9
     (refine qw ?_;intros;rename_i hM)
     (refine qf ?_)
     exact⟨by rw[HE.out];rfl,hM.to_below⟩
    ·have k9:decide ((p.size:Int)≤96)=false:=decide_eq_false (by omega)
     have HE:=qh (show B=false by rw[←hb];simp[h9])
     clear hb h8 h9
     (refine qw ?_;intros;rename_i hM)
     (refine qf ?_)
     exact⟨by rw[HE.out];rfl,hM.to_below⟩
   ·have k8:decide ((l.length:Int)≤8)=false:=decide_eq_false (by omega)
    have HE:=qh (show B=false by rw[←hb];simp[h8])
    clear hb h8
    (refine qw ?_;intros;rename_i hM)
    (refine qf ?_)
    exact⟨by rw[HE.out];rfl,hM.to_below⟩
end
section
open Go.RowKit Go.Maps
namespace Hs
def place(t:TabD)(p:ByteArray):Int×ByteArray×Int:=
 match (Pt.parts p).getLast? with
 |none=>(0,⟨#[]⟩,1)
 |some y=>((Fs.walkL t 1 (Pt.parts p).dropLast).1,y,(Fs.walkL t 1 (Pt.parts p).dropLast).2)
end Hs
section
variable {w w' w0 w1 w2:World}{X X':bQ}{t t':TabD}{zs zs':List NodV}{hs hs':List ae}{N:Nat}{F:List Nat}{L:List Ent}
theorem zT(h:av X t zs hs w0)(I:In.Inv N t)(hN:N≤900000)(p:ByteArray)(hp:p.size≤1000000)(hl:(Pt.parts p).length≤1000000)(hz: ∀ s∈Pt.parts p,s.size≤1000000000):
  An 140 #[.pointer (some ⟨X.f,0,none⟩),.string p] w0 (.tuple #[.int .i64 (Hs.place t p).1,.string (Hs.place t p).2.1,.int .i64 (Hs.place t p).2.2]):=by
 have hM:=St.start w0 []
 have HP:=qh (fun W=>Yl p W hp)
 unfold Hs.place
 generalize Pt.parts p=l at*
 rcases lcDz l with rfl|⟨r,y,rfl⟩
 ·clear h I hz
  simp only[List.getLast?_nil]
  go_enter Tryz.func140,Tryz.ntmps140
  (refine qw ?_;intros;rename_i hM)
  (refine qK3 (fun R hR=> ?_))
  refine(HP.out _).mono ?_
  rintro e w' ⟨s,rfl,hok,hst⟩;refine hR.out _ _ ?_;clear hR R
  replace hM:=hM.madeM hst (zL _ _)
  obtain⟨ua,uc,hu,-⟩:=zf hok
  rw[hu]
  clear hst hok HP hu
  (refine qq ?_)
  exact qwf
 ·rw[lcEz] at*
  rw[List.getLast?_concat,List.dropLast_concat]
  simp only
  have HW:=qh (fun (W:World) (hb:Below w0.heap.size w0 W) (va:Option Addr) (vc:Nat) (hva: ∀ k s,r[k]? =some s→ ∃ g,va=some ⟨g,0,none⟩∧W.cell? ⟨g,k,none⟩=some (.string s)) (oz:r.length≤vc)=>u5 (h.below hb) I hN r (by rw[laNz] at hl;omega) (fun s hs=>hz s (laEz _ hs)) hva oz)
  clear h I hz
  obtain⟨n1,hn1⟩: ∃ n1,(r++[y]).length=n1:=⟨_,rfl⟩
  have hn2:n1=r.length+1:=by rw[←hn1];simp
  obtain⟨m,hm⟩: ∃ m,r.length=m:=⟨_,rfl⟩
  rw[hm] at HW hn2
  have iX:IntKind.i64.wrap ((n1:Int) - 1)=(m:Int):=by rw[Za _ (by omega)];omega
  have k0:((n1:Int)==0)=false:=qne.2 (by omega)
  have HV:=qh (show((r++[y]).map Value.string)[m]? =some (.string y) by rw[lbCz,←hm,ldCz (Nat.le_refl _)];simp)
  have Cz:=qh (fun (k:Nat) (s:ByteArray) (hk:r[k]? =some s)=>(show((r++[y]).map Value.string)[k]? =some (.string s) by rw[lbCz,lcQz (laHz.1 hk).1,hk];rfl))
  have HN:=qh hn2
  clear hn2
  go_enter Tryz.func140,Tryz.ntmps140
  (refine qw ?_;intros;rename_i hM)
  (refine qK3 (fun R hR=> ?_))
  refine(HP.out _).mono ?_
  rintro e w' ⟨s,rfl,hok,hst⟩;refine hR.out _ _ ?_;clear hR R
  replace hM:=hM.madeM hst (zL _ _)
  rw[laYz] at hM
  replace hok:SlOK s n1 ((r++[y]).map Value.string) 1:=hn1▸hok
  rw[hn1]
  obtain⟨g1,cap1,rfl⟩: ∃ g1 cap1,s=some (g1,cap1):=by
   rcases s with _|⟨g1,cap1⟩
   ·have h0:n1=0:=hok.2
    have:=HN.out
    omega
   ·exact⟨g1,cap1,rfl⟩
  have HOK:=qh hok.2
  show zg _ _ _ _ _ (Act.put _ _ (.slice (some ⟨g1,0,none⟩) n1 cap1)) _
  clear hst hok HP hn1
  (refine qq ?_)
  (refine qw ?_;intros;rename_i hM)
  refine St.slcTo rfl rfl rfl rfl rfl Tryz.underlying29 (sz:=1) (by kernel_rfl) (j:=m) (by have:=HOK.out.1;have:=HN.out;omega) ?_
  (refine qq ?_)
  (refine qw ?_;intros;rename_i hM)
  (refine qK3 (fun R hR=> ?_))
  refine(HW.out _ hM.to_below _ _ (fun k s hk=>⟨g1,rfl,Res.cell (r:= .pre ((r++[y]).map Value.string) 9 (cap1*1)) (hM.holds _ (.head _)) (Cz.out k s hk)⟩) (by have:=HOK.out.1;have:=HN.out;omega)).mono ?_
  (refine qJ3 hR hM ?_;clear hR R hM;intro w' hM)
  have hv:=HV.out
  have hlt:(m:Int)<(n1:Int):=by have:=HN.out;omega
  exact qwf
end
end
section
open Go.RowKit Go.Maps
namespace Hs
def bS(p:ByteArray):Bool:= !(p.toList==[])&&Pt.gT p
def right(o:OpD):Bool:=
 if o.kind=1∨o.kind=2∨o.kind=3∨o.kind=4∨o.kind=11 then bS o.path
 else if o.kind=10∨o.kind=12 then bS o.path&&bS o.dest
 else if o.kind=13 then Pt.gT o.path
 else decide (1≤o.kind)&&decide (o.kind≤13)
end Hs
structure ai (p:ByteArray):Prop where
 size:p.size≤1000000
 few:(Pt.parts p).length≤1000000
 each: ∀ s∈Pt.parts p,s.size≤1000000000
section
variable {w0:World}
theorem Zg{p:ByteArray}(h:ai p)(w:World):An 177 #[.string p] w (.bool (Pt.gT p)):=Cy p w h.size (by have:=h.few;omega) h.each
theorem CQ(o:OpD)(hp:ai o.path)(hd:ai o.dest)(hk:o.kind=1)(w0:World):An 135 #[.agg o.cells.toArray] w0 (.bool (Hs.right o)):=by
 have hM:=St.start w0 []
 obtain⟨kind,path,dest,hh,at_,n,data,pid,birth⟩:=o
 simp only at*
 have HP:=qh (fun W=>Zg hp W)
 have HD:=qh (fun W=>Zg hd W)
 unfold OpD.cells Hs.right Hs.bS
 simp only
 clear hp hd
 subst hk
 rw[if_pos (by decide)]
 cases aJ:(path.toList==[]:Bool) with
 |true=>
  have bq:(path.toList != [])=false:=by unfold bne;rw[aJ];rfl
  go_enter Tryz.func135,Tryz.ntmps135
  exact qwf
 |false=>
  have bq:(path.toList != [])=true:=by unfold bne;rw[aJ];rfl
  generalize Pt.gT path=cj at*
  cases cj with
  |true=>
   go_enter Tryz.func135,Tryz.ntmps135
   (refine qw ?_;intros;rename_i hM)
   (refine qCB (HP.out _) hM ?_;clear hM;intro w' hM)
   exact qwf
  |false=>
   go_enter Tryz.func135,Tryz.ntmps135
   (refine qw ?_;intros;rename_i hM)
   (refine qCB (HP.out _) hM ?_;clear hM;intro w' hM)
   exact qwf
theorem CT(o:OpD)(hp:ai o.path)(hd:ai o.dest)(hk:o.kind=2)(w0:World):An 135 #[.agg o.cells.toArray] w0 (.bool (Hs.right o)):=by
 have hM:=St.start w0 []
 obtain⟨kind,path,dest,hh,at_,n,data,pid,birth⟩:=o
 simp only at*
 have HP:=qh (fun W=>Zg hp W)
 have HD:=qh (fun W=>Zg hd W)
 unfold OpD.cells Hs.right Hs.bS
 simp only
 clear hp hd
 subst hk
 rw[if_pos (by decide)]
 cases aJ:(path.toList==[]:Bool) with
 |true=>
  have bq:(path.toList != [])=false:=by unfold bne;rw[aJ];rfl
  go_enter Tryz.func135,Tryz.ntmps135
  exact qwf
 |false=>
  have bq:(path.toList != [])=true:=by unfold bne;rw[aJ];rfl
  generalize Pt.gT path=cj at*
  cases cj with
  |true=>
   go_enter Tryz.func135,Tryz.ntmps135
   (refine qw ?_;intros;rename_i hM)
   (refine qCB (HP.out _) hM ?_;clear hM;intro w' hM)
   exact qwf
  |false=>
   go_enter Tryz.func135,Tryz.ntmps135
   (refine qw ?_;intros;rename_i hM)
   (refine qCB (HP.out _) hM ?_;clear hM;intro w' hM)
   exact qwf
theorem CV(o:OpD)(hp:ai o.path)(hd:ai o.dest)(hk:o.kind=3)(w0:World):An 135 #[.agg o.cells.toArray] w0 (.bool (Hs.right o)):=by
 have hM:=St.start w0 []
 obtain⟨kind,path,dest,hh,at_,n,data,pid,birth⟩:=o
 simp only at*
 have HP:=qh (fun W=>Zg hp W)
 have HD:=qh (fun W=>Zg hd W)
 unfold OpD.cells Hs.right Hs.bS
 simp only
 clear hp hd
 subst hk
 rw[if_pos (by decide)]
 cases aJ:(path.toList==[]:Bool) with
 |true=>
  have bq:(path.toList != [])=false:=by unfold bne;rw[aJ];rfl
  go_enter Tryz.func135,Tryz.ntmps135
  exact qwf
 |false=>
  have bq:(path.toList != [])=true:=by unfold bne;rw[aJ];rfl
  generalize Pt.gT path=cj at*
  cases cj with
  |true=>
   go_enter Tryz.func135,Tryz.ntmps135
   (refine qw ?_;intros;rename_i hM)
   (refine qCB (HP.out _) hM ?_;clear hM;intro w' hM)
   exact qwf
  |false=>
   go_enter Tryz.func135,Tryz.ntmps135
   (refine qw ?_;intros;rename_i hM)
   (refine qCB (HP.out _) hM ?_;clear hM;intro w' hM)
   exact qwf
theorem CX(o:OpD)(hp:ai o.path)(hd:ai o.dest)(hk:o.kind=4)(w0:World):An 135 #[.agg o.cells.toArray] w0 (.bool (Hs.right o)):=by
 have hM:=St.start w0 []
 obtain⟨kind,path,dest,hh,at_,n,data,pid,birth⟩:=o
 simp only at*
 have HP:=qh (fun W=>Zg hp W)
 have HD:=qh (fun W=>Zg hd W)
 unfold OpD.cells Hs.right Hs.bS
 simp only
 clear hp hd
 subst hk
 rw[if_pos (by decide)]
 cases aJ:(path.toList==[]:Bool) with
 |true=>
  have bq:(path.toList != [])=false:=by unfold bne;rw[aJ];rfl
  go_enter Tryz.func135,Tryz.ntmps135
  exact qwf
 |false=>
  have bq:(path.toList != [])=true:=by unfold bne;rw[aJ];rfl
  generalize Pt.gT path=cj at*
  cases cj with
  |true=>
   go_enter Tryz.func135,Tryz.ntmps135
   (refine qw ?_;intros;rename_i hM)
   (refine qCB (HP.out _) hM ?_;clear hM;intro w' hM)
   exact qwf
  |false=>
   go_enter Tryz.func135,Tryz.ntmps135
   (refine qw ?_;intros;rename_i hM)
   (refine qCB (HP.out _) hM ?_;clear hM;intro w' hM)
   exact qwf
theorem CY(o:OpD)(hp:ai o.path)(hd:ai o.dest)(hk:o.kind=11)(w0:World):An 135 #[.agg o.cells.toArray] w0 (.bool (Hs.right o)):=by
 have hM:=St.start w0 []
 obtain⟨kind,path,dest,hh,at_,n,data,pid,birth⟩:=o
 simp only at*
 have HP:=qh (fun W=>Zg hp W)
 have HD:=qh (fun W=>Zg hd W)
 unfold OpD.cells Hs.right Hs.bS
 simp only
 clear hp hd
 subst hk
 rw[if_pos (by decide)]
 cases aJ:(path.toList==[]:Bool) with
 |true=>
  have bq:(path.toList != [])=false:=by unfold bne;rw[aJ];rfl
  go_enter Tryz.func135,Tryz.ntmps135
  exact qwf
 |false=>
  have bq:(path.toList != [])=true:=by unfold bne;rw[aJ];rfl
  generalize Pt.gT path=cj at*
  cases cj with
  |true=>
   go_enter Tryz.func135,Tryz.ntmps135
   (refine qw ?_;intros;rename_i hM)
   (refine qCB (HP.out _) hM ?_;clear hM;intro w' hM)
   exact qwf
  |false=>
   go_enter Tryz.func135,Tryz.ntmps135
   (refine qw ?_;intros;rename_i hM)
   (refine qCB (HP.out _) hM ?_;clear hM;intro w' hM)
   exact qwf
theorem CZ(o:OpD)(hp:ai o.path)(hd:ai o.dest)(hk:o.kind=10)(w0:World):An 135 #[.agg o.cells.toArray] w0 (.bool (Hs.right o)):=by
 have hM:=St.start w0 []
 obtain⟨kind,path,dest,hh,at_,n,data,pid,birth⟩:=o
 simp only at*
 have HP:=qh (fun W=>Zg hp W)
 have HD:=qh (fun W=>Zg hd W)
 unfold OpD.cells Hs.right Hs.bS
 simp only
 clear hp hd
 subst hk
 rw[if_neg (by decide),if_pos (by decide)]
 cases aJ:(path.toList==[]:Bool) with
 |true=>
  have bq:(path.toList != [])=false:=by unfold bne;rw[aJ];rfl
  go_enter Tryz.func135,Tryz.ntmps135
  exact qwf
 |false=>
  have bq:(path.toList != [])=true:=by unfold bne;rw[aJ];rfl
  generalize Pt.gT path=cj at*
  cases cj with
  |true=>
   cases fy:(dest.toList==[]:Bool) with
   |true=>
    have jc:(dest.toList != [])=false:=by unfold bne;rw[fy];rfl
    go_enter Tryz.func135,Tryz.ntmps135
    (refine qw ?_;intros;rename_i hM)
    (refine qCB (HP.out _) hM ?_;clear hM;intro w' hM)
    exact qwf
   |false=>
    have jc:(dest.toList != [])=true:=by unfold bne;rw[fy];rfl
    generalize Pt.gT dest=kP at*
    cases kP with
    |true=>
     go_enter Tryz.func135,Tryz.ntmps135
     (refine qw ?_;intros;rename_i hM)
     (refine qCB (HP.out _) hM ?_;clear hM;intro w' hM)
     (refine qw ?_;intros;rename_i hM)
     (refine qCB (HD.out _) hM ?_;clear hM;intro w' hM)
     exact qwf
    |false=>
     go_enter Tryz.func135,Tryz.ntmps135
     (refine qw ?_;intros;rename_i hM)
     (refine qCB (HP.out _) hM ?_;clear hM;intro w' hM)
     (refine qw ?_;intros;rename_i hM)
     (refine qCB (HD.out _) hM ?_;clear hM;intro w' hM)
     exact qwf
  |false=>
   go_enter Tryz.func135,Tryz.ntmps135
   (refine qw ?_;intros;rename_i hM)
   (refine qCB (HP.out _) hM ?_;clear hM;intro w' hM)
   exact qwf
theorem C0(o:OpD)(hp:ai o.path)(hd:ai o.dest)(hk:o.kind=12)(w0:World):An 135 #[.agg o.cells.toArray] w0 (.bool (Hs.right o)):=by
 have hM:=St.start w0 []
 obtain⟨kind,path,dest,hh,at_,n,data,pid,birth⟩:=o
 simp only at*
 have HP:=qh (fun W=>Zg hp W)
 have HD:=qh (fun W=>Zg hd W)
 unfold OpD.cells Hs.right Hs.bS
 simp only
 clear hp hd
 subst hk
 rw[if_neg (by decide),if_pos (by decide)]
 cases aJ:(path.toList==[]:Bool) with
 |true=>
  have bq:(path.toList != [])=false:=by unfold bne;rw[aJ];rfl
  go_enter Tryz.func135,Tryz.ntmps135
  exact qwf
 |false=>
  have bq:(path.toList != [])=true:=by unfold bne;rw[aJ];rfl
  generalize Pt.gT path=cj at*
  cases cj with
  |true=>
   cases fy:(dest.toList==[]:Bool) with
   |true=>
    have jc:(dest.toList != [])=false:=by unfold bne;rw[fy];rfl
    go_enter Tryz.func135,Tryz.ntmps135
    (refine qw ?_;intros;rename_i hM)
    (refine qCB (HP.out _) hM ?_;clear hM;intro w' hM)
    exact qwf
   |false=>
    have jc:(dest.toList != [])=true:=by unfold bne;rw[fy];rfl
    generalize Pt.gT dest=kP at*
    cases kP with
    |true=>
     go_enter Tryz.func135,Tryz.ntmps135
     (refine qw ?_;intros;rename_i hM)
     (refine qCB (HP.out _) hM ?_;clear hM;intro w' hM)
     (refine qw ?_;intros;rename_i hM)
     (refine qCB (HD.out _) hM ?_;clear hM;intro w' hM)
     exact qwf
    |false=>
     go_enter Tryz.func135,Tryz.ntmps135
     (refine qw ?_;intros;rename_i hM)
     (refine qCB (HP.out _) hM ?_;clear hM;intro w' hM)
     (refine qw ?_;intros;rename_i hM)
     (refine qCB (HD.out _) hM ?_;clear hM;intro w' hM)
     exact qwf
  |false=>
   go_enter Tryz.func135,Tryz.ntmps135
   (refine qw ?_;intros;rename_i hM)
   (refine qCB (HP.out _) hM ?_;clear hM;intro w' hM)
   exact qwf
theorem C4(o:OpD)(hp:ai o.path)(hd:ai o.dest)(hk:o.kind=13)(w0:World):An 135 #[.agg o.cells.toArray] w0 (.bool (Hs.right o)):=by
 have hM:=St.start w0 []
 obtain⟨kind,path,dest,hh,at_,n,data,pid,birth⟩:=o
 simp only at*
 have HP:=qh (fun W=>Zg hp W)
 have HD:=qh (fun W=>Zg hd W)
 unfold OpD.cells Hs.right Hs.bS
 simp only
 clear hp hd
 subst hk
 rw[if_neg (by decide),if_neg (by decide),if_pos rfl]
 go_enter Tryz.func135,Tryz.ntmps135
 (refine qw ?_;intros;rename_i hM)
 (refine qCB (HP.out _) hM ?_;clear hM;intro w' hM)
 exact qwf
theorem C5(o:OpD)(hp:ai o.path)(hd:ai o.dest)(h1:o.kind≠1)(h2:o.kind≠2)(h3:o.kind≠3)(h4:o.kind≠4)(kx:o.kind≠11)(jD:o.kind≠10)(po:o.kind≠12)(cQ:o.kind≠13)(w0:World):An 135 #[.agg o.cells.toArray] w0 (.bool (Hs.right o)):=by
 have hM:=St.start w0 []
 obtain⟨kind,path,dest,hh,at_,n,data,pid,birth⟩:=o
 simp only at*
 have HP:=qh (fun W=>Zg hp W)
 have HD:=qh (fun W=>Zg hd W)
 unfold OpD.cells Hs.right Hs.bS
 simp only
 clear hp hd
 rw[if_neg (by omega),if_neg (by omega),if_neg cQ]
 have b1:=qne.2 h1
 have b2:=qne.2 h2
 have b3:=qne.2 h3
 have b4:=qne.2 h4
 have b11:=qne.2 kx
 have b10:=qne.2 jD
 have b12:=qne.2 po
 have b13:=qne.2 cQ
 clear h1 h2 h3 h4 kx jD po cQ
 by_cases h0:1≤kind
 ·by_cases hm:kind≤13
  ·rw[decide_eq_true h0,decide_eq_true hm]
   go_enter Tryz.func135,Tryz.ntmps135
   exact qwf
  ·have q1:decide (kind≤13)=false:=decide_eq_false hm
   rw[decide_eq_true h0,q1]
   clear hm
   go_enter Tryz.func135,Tryz.ntmps135
   exact qwf
 ·have q1:decide (1≤kind)=false:=decide_eq_false h0
  rw[q1]
  clear h0
  go_enter Tryz.func135,Tryz.ntmps135
  exact qwf
theorem zZ(o:OpD)(hp:ai o.path)(hd:ai o.dest)(w0:World):An 135 #[.agg o.cells.toArray] w0 (.bool (Hs.right o)):=by
 by_cases h1:o.kind=1
 ·exact CQ o hp hd h1 w0
 by_cases h2:o.kind=2
 ·exact CT o hp hd h2 w0
 by_cases h3:o.kind=3
 ·exact CV o hp hd h3 w0
 by_cases h4:o.kind=4
 ·exact CX o hp hd h4 w0
 by_cases kx:o.kind=11
 ·exact CY o hp hd kx w0
 by_cases jD:o.kind=10
 ·exact CZ o hp hd jD w0
 by_cases po:o.kind=12
 ·exact C0 o hp hd po w0
 by_cases cQ:o.kind=13
 ·exact C4 o hp hd cQ w0
 exact C5 o hp hd h1 h2 h3 h4 kx jD po cQ w0
end
end
section
open Go.RowKit Go.Maps
namespace Hs
def links(t:TabD)(hs:List ae)(dir:Int)(s path:ByteArray):(Int×Int×ByteArray)×TabD×List ae:=
 if In.findE t dir s≠0 then((In.findE t dir s,0,⟨#[]⟩),t,hs)
 else if(place t path).2.2≠0 then(((place t path).2.2,0,⟨#[]⟩),t,hs)
 else(((In.link t (In.findN t dir s) (place t path).1 (place t path).2.1).1,0,⟨#[]⟩),(In.link t (In.findN t dir s) (place t path).1 (place t path).2.1).2,hs)
end Hs
section
variable {w w' w0 w1 w2:World}{X X':bQ}{t t':TabD}{zs zs':List NodV}{hs hs':List ae}{N:Nat}{F:List Nat}{L:List Ent}
theorem Zc{p:ByteArray}(h:ai p)(t:TabD):(Hs.place t p).2.1.size≤1000000000:=by
 unfold Hs.place
 cases he:(Pt.parts p).getLast? with
 |none=>exact Nat.zero_le _
 |some y=>exact h.each y (List.mem_of_getLast? he)
theorem C6(h:av X t zs hs w0)(I:In.Inv N t)(hN:N≤900000)(dir:Int)(s path:ByteArray)(hs1:s.size≤1000000000)(hp:ai path):Calls Tryz.prog 146 #[.pointer (some ⟨X.f,0,none⟩),.int .i64 dir,.string s,.string path] w0 (yv X t zs hs w0 (Hs.links t hs dir s path)):=by
 obtain⟨xf,g,xs,xh,va,vc,rfl,hv,hM,bo,cN,cM,HB⟩:=ZF h
 have HV:=qh hv
 have HK:=qh h.hok
 have HL:=qh h.hlen
 have dt:=qh (fun (W:World) (hA:At (rL ⟨g,xs⟩ t.quota (t.last+1) zs) W)=>Zv (cN.out W hA) I hN dir s hs1)
 have cR:=qh (fun (W:World) hA=>zT (bo.out W hA) I hN path hp.size hp.few hp.each)
 have rp:=qh (fun (W:World) (hA:At (rL ⟨g,xs⟩ t.quota (t.last+1) zs) W)=>Bw (cN.out W hA) I hN (In.findN t dir s) (Hs.place t path).1 (Hs.place t path).2.1 (Zc hp t))
 obtain⟨R,hR0⟩: ∃ R,Hs.links t hs dir s path=R:=⟨_,rfl⟩
 rw[hR0]
 unfold Hs.links at hR0
 generalize In.findE t dir s=c at*
 generalize In.findN t dir s=id at*
 generalize (Hs.place t path).2.2=c2 at*
 generalize (Hs.place t path).2.1=nm at*
 generalize (Hs.place t path).1=pd at*
 clear h I hv hs1 hp
 by_cases hc:c=0
 ·subst hc
  rw[if_neg (by simp)] at hR0
  by_cases hc2:c2=0
  ·subst hc2
   rw[if_neg (by simp)] at hR0
   have HR0:=qh hR0
   clear hR0
   go_enter Tryz.func146,Tryz.ntmps146
   (refine qw ?_;intros;rename_i hM)
   (refine qCB (dt.out _ (hM.part (Part.skip (Part.skip (Part.past Part.all))))) hM ?_;clear hM;intro w' hM)
   (refine qw ?_;intros;rename_i hM)
   (refine qCB (cR.out _ (hM.part (Part.skip Part.all))) hM ?_;clear hM;intro w' hM)
   (refine qw ?_;intros;rename_i hM)
   (refine qK3 (fun R hR=> ?_))
   refine(rp.out _ (hM.part (Part.skip (Part.skip (Part.past Part.all))))).mono ?_
   rintro e w' ⟨rfl,s2,aF,aZ,hto⟩
   have ff:=qh (Grow.trans (fun k hk=> .inl (cM.out k hk)) hto.grow hM.only.size:Grow w0 (ze (bw ⟨xf,⟨g,xs⟩,xh⟩ t.quota (t.last+1) zs hs)) _)
   replace hM:=hM.az (Swap.skip (Swap.skip (Swap.past Swap.all))) hto.st Yg hto.grow
   refine hR.out _ _ ?_
   clear hR R
   have HZ:=qh (And.intro hto.raw.sl (And.intro hto.raw.names (And.intro hto.raw.len aZ)))
   clear hto aZ
   (refine qq ?_)
   (refine qw ?_;intros;rename_i hM)
   (refine qf ?_)
   rw[←HR0.out]
   refine⟨rfl,⟨xf,⟨g,s2⟩,xh⟩,aF,St.dC ?_ rfl rfl HZ.out.1 HZ.out.2.1 HZ.out.2.2.1 HZ.out.2.2.2 HK.out HL.out ff.out⟩
   rw[zP (X:=⟨xf,⟨g,s2⟩,xh⟩) HV.out]
   exact hM.forget
  ·have q2:(c2 != 0)=true:=bne_iff_ne.2 hc2
   rw[if_pos hc2] at hR0
   have HR0:=qh hR0
   clear hR0 hc2
   go_enter Tryz.func146,Tryz.ntmps146
   (refine qw ?_;intros;rename_i hM)
   (refine qCB (dt.out _ (hM.part (Part.skip (Part.skip (Part.past Part.all))))) hM ?_;clear hM;intro w' hM)
   (refine qw ?_;intros;rename_i hM)
   (refine qCB (cR.out _ (hM.part (Part.skip Part.all))) hM ?_;clear hM;intro w' hM)
   (refine qw ?_;intros;rename_i hM)
   (refine qf ?_)
   rw[←HR0.out]
   exact⟨rfl,HB.out _ hM.forget⟩
 ·have q1:(c != 0)=true:=bne_iff_ne.2 hc
  rw[if_pos hc] at hR0
  have HR0:=qh hR0
  clear hR0 hc
  go_enter Tryz.func146,Tryz.ntmps146
  (refine qw ?_;intros;rename_i hM)
  (refine qCB (dt.out _ (hM.part (Part.skip (Part.skip (Part.past Part.all))))) hM ?_;clear hM;intro w' hM)
  (refine qw ?_;intros;rename_i hM)
  (refine qf ?_)
  rw[←HR0.out]
  exact⟨rfl,HB.out _ hM.forget⟩
end
end
section
open Go.RowKit Go.Maps
namespace Hs
def gives(t:TabD)(hs:List ae)(o id:Int):(Int×Int×ByteArray)×TabD×List ae:=
 if(In.hold t id).1=0 then((0,free hs o,⟨#[]⟩),(In.hold t id).2,hs++[⟨o,free hs o,id⟩])
 else(((In.hold t id).1,0,⟨#[]⟩),(In.hold t id).2,hs)
def aQ (t : TabD) (hs : List ae) (o : Int) (p : OpD) (dir : Int) (s : ByteArray) : (Int × Int × ByteArray) × TabD × List ae :=
  if p.kind = 1 then (((In.make t dir s true).2.1, 0, ⟨#[]⟩), (In.make t dir s true).2.2, hs)
  else if p.kind = 2 then (((In.remove t dir s).1, 0, ⟨#[]⟩), (In.remove t dir s).2, hs)
  else if p.kind = 11 then (((In.unlink t dir s).1, 0, ⟨#[]⟩), (In.unlink t dir s).2, hs)
  else if p.kind = 3 then
    (if (In.make t dir s false).2.1 ≠ 0 then (((In.make t dir s false).2.1, 0, ⟨#[]⟩), (In.make t dir s false).2.2, hs)
     else gives (In.make t dir s false).2.2 hs o (In.make t dir s false).1)
  else if p.kind = 4 then
    (if In.findE t dir s ≠ 0 then ((In.findE t dir s, 0, ⟨#[]⟩), t, hs) else gives t hs o (In.findN t dir s))
  else if p.kind = 10 then links t hs dir s p.dest
  else if (place t p.dest).2.2 ≠ 0 then (((place t p.dest).2.2, 0, ⟨#[]⟩), t, hs)
  else (((In.rename t dir s (place t p.dest).1 (place t p.dest).2.1).1, 0, ⟨#[]⟩), (In.rename t dir s (place t p.dest).1 (place t p.dest).2.1).2, hs)
def aO(t:TabD)(hs:List ae)(o:Int)(p:OpD):(Int×Int×ByteArray)×TabD×List ae:=
 if right p=false then((1,0,⟨#[]⟩),t,hs)
 else if p.kind=5∨p.kind=6∨p.kind=7∨p.kind=8∨p.kind=9 then handled t hs o p
 else if(p.kind=3∨p.kind=4)∧8≤many hs o then((5,0,⟨#[]⟩),t,hs)
 else if(place t p.path).2.2≠0 then(((place t p.path).2.2,0,⟨#[]⟩),t,hs)
 else aQ t hs o p (place t p.path).1 (place t p.path).2.1
def lists(t:TabD)(p:ByteArray):ResD:=
 if(Fs.walkL t 1 (Pt.parts p)).2≠0 then Fs.errR (Fs.walkL t 1 (Pt.parts p)).2
 else⟨In.listE t (Fs.walkL t 1 (Pt.parts p)).1,0,⟨#[]⟩,In.list t (Fs.walkL t 1 (Pt.parts p)).1⟩
def do_(t:TabD)(hs:List ae)(o:Int)(p:OpD):ResD×TabD×List ae:=
 if right p=true∧p.kind=13 then(lists t p.path,t,hs)
 else(⟨(aO t hs o p).1.1,(aO t hs o p).1.2.1,(aO t hs o p).1.2.2,[]⟩,(aO t hs o p).2)
end Hs
section
variable {w w' w0 w1 w2:World}{X X1 X':bQ}{t t1 t':TabD}{zs fV zs':List NodV}{hs hs1 hs':List ae}{N:Nat}{F:List Nat}{L:List Ent}
theorem bX.refl(h:av X t zs hs w):bX X t zs hs X t zs hs w w:=⟨rfl,rfl,h,Only.refl _ w,fun k hk=> .inl (Zx.2 (.inr (.inl hk))),Grow.refl _ _⟩
theorem bX.below(h:bX X t zs hs X' t' zs' hs' w0 w)(hb:Below w.heap.size w w'):bX X t zs hs X' t' zs' hs' w0 w':=⟨h.f,h.g,h.is.below hb,h.only.below (hb.mono h.only.size),h.own,h.grow⟩
theorem bX.trans(h:bX X t zs hs X1 t1 fV hs1 w0 w1)(k:bX X1 t1 fV hs1 X' t' zs' hs' w1 w2):bX X t zs hs X' t' zs' hs' w0 w2:=by
 have hG: ∀ x∈eO X1 hs1,x∈eO X hs∨w0.heap.size≤x:=fun x hx=>by
  rcases Zx.1 hx with e|e|e
  ·exact .inl (Zx.2 (.inl (e.trans h.f)))
  ·exact h.own x e
  ·exact .inl (Zx.2 (.inr (.inr (e.trans h.g))))
 refine⟨k.f.trans h.f,k.g.trans h.g,k.is,h.only.then k.only hG,fun x hx=> ?_,h.grow.trans k.grow h.only.size⟩
 rcases k.own x hx with h1|h1
 ·exact hG x h1
 ·exact .inr (Nat.le_trans h.only.size h1)
theorem YG.same(h:av X t zs hs w)(hb:Below w.heap.size w w'):YG X t zs hs t hs w w':=⟨X,zs,(bX.refl h).below hb⟩
theorem YG.pre(h:av X t zs hs w0)(hb:Below w0.heap.size w0 w)(hd:YG X t zs hs t' hs' w w'):YG X t zs hs t' hs' w0 w':=by
 obtain⟨X',zs',h2⟩:=hd
 exact⟨X',zs',((bX.refl h).below hb).trans h2⟩
theorem YG.below(hd:YG X t zs hs t' hs' w0 w)(hb:Below w.heap.size w w'):YG X t zs hs t' hs' w0 w':=by
 obtain⟨X',zs',h2⟩:=hd
 exact⟨X',zs',h2.below hb⟩
theorem YG.tbl(h:av X t zs hs w)(hd:cA X.x t zs t' w w'):YG X t zs hs t' hs w w':=by
 obtain⟨xf,⟨g,xs⟩,xh⟩:=X
 obtain⟨s2,aF,aZ,hto⟩:=hd
 obtain⟨va,vc,hv,-⟩:=zf h.hok
 have hM:=h.st
 rw[zP (X:=⟨xf,⟨g,xs⟩,xh⟩) hv] at hM
 simp only at hM hv
 replace hM:=hM.az (Swap.skip (Swap.past Swap.all)) hto.st Yg hto.grow
 refine⟨⟨xf,⟨g,s2⟩,xh⟩,aF,St.dC ?_ rfl rfl hto.raw.sl hto.raw.names hto.raw.len aZ h.hok h.hlen (fun k hk=> ?_)⟩
 ·rw[zP (X:=⟨xf,⟨g,s2⟩,xh⟩) hv]
  exact hM
 ·rcases hto.grow k hk with h1|h1
  ·exact .inl (by rw[yg];exact .tail _ (laCz _ h1))
  ·exact .inr h1
def vr(X:bQ)(t:TabD)(zs:List NodV)(hs:List ae)(w:World)(r:ResD×TabD×List ae)(e:Ending)(w':World):Prop:=
 ∃ s X' zs',e= .returned (.agg #[.int .i64 r.1.err,.int .i64 r.1.n,.string r.1.data,slV s r.1.names.length])∧TxOK s r.1.names∧At (txL s r.1.names) w'∧(∀ k∈ze (txL s r.1.names),w.heap.size≤k∧k∉ze (bw X' r.2.1.quota (r.2.1.last+1) zs' r.2.2))∧bX X t zs hs X' r.2.1 zs' r.2.2 w w'
end
end
section
open Go.RowKit Go.Maps
section
variable {w w' w0 w1 w2:World}{X X1 X':bQ}{t t1 t':TabD}{zs fV zs':List NodV}{hs hs1 hs':List ae}{N:Nat}{F:List Nat}{L:List Ent}
theorem XI{q nx:Int}: ∀ k∈ze (rL X.x q nx zs),k∈ze (bw X q nx zs hs):=fun k hk=>by rw[yg];exact .tail _ (laCz _ hk)
theorem bX.fin(hto:bX X1 t1 fV hs1 X' t' zs' hs' w1 w2)(hM:St w0 (eO X hs) w' (bw X' t'.quota (t'.last+1) zs' hs'))(hf:X1.f=X.f)(hg:X1.x.g=X.x.g)
  (gX:Grow w0 (ze (bw X t.quota (t.last+1) zs hs)) (ze (bw X' t'.quota (t'.last+1) zs' hs'))):YG X t zs hs t' hs' w0 w':=
 ⟨X',zs',St.dC hM (hto.f.trans hf) (hto.g.trans hg) hto.is.sl hto.is.names hto.is.len hto.is.nodes hto.is.hok hto.is.hlen fun k hk=>gX k (XI k hk)⟩
theorem Grow.full{s:Option (Nat×Nat)}{xf g:Nat}{xs xh:Option (Nat×Nat)}{q nx q' lH:Int}{aF:List NodV}(h:Grow w0 (ze (bw ⟨xf,⟨g,xs⟩,xh⟩ q nx zs hs)) (ze (rL ⟨g,s⟩ q' lH aF))):Grow w0 (ze (bw ⟨xf,⟨g,xs⟩,xh⟩ q nx zs hs)) (ze (bw ⟨xf,⟨g,s⟩,xh⟩ q' lH aF hs)):=fun k hk=>by
 rw[yg] at hk
 rcases laBz.1 hk with rfl|hk
 ·exact .inl (by rw[yg];exact .head _)
 ·rcases laAz.1 hk with hk|hk
  ·exact .inl (by rw[yg];exact .tail _ (laEz _ hk))
  ·exact h k hk
theorem C7{o:Int}{p:OpD}{dir:Int}{s:ByteArray}(hk:p.kind=1):Hs.aQ t hs o p dir s=(((In.make t dir s true).2.1,0,⟨#[]⟩),(In.make t dir s true).2.2,hs):=by unfold Hs.aQ;rw[if_pos hk]
theorem C8{o:Int}{p:OpD}{dir:Int}{s:ByteArray}(hk:p.kind=2):Hs.aQ t hs o p dir s=(((In.remove t dir s).1,0,⟨#[]⟩),(In.remove t dir s).2,hs):=by unfold Hs.aQ;rw[if_neg (by omega),if_pos hk]
theorem C9{o:Int}{p:OpD}{dir:Int}{s:ByteArray}(hk:p.kind=11):Hs.aQ t hs o p dir s=(((In.unlink t dir s).1,0,⟨#[]⟩),(In.unlink t dir s).2,hs):=by unfold Hs.aQ;rw[if_neg (by omega),if_neg (by omega),if_pos hk]
theorem vt{o:Int}{p:OpD}{dir:Int}{s:ByteArray}(hk:p.kind=3):Hs.aQ t hs o p dir s=(if(In.make t dir s false).2.1≠0 then(((In.make t dir s false).2.1,0,⟨#[]⟩),(In.make t dir s false).2.2,hs) else Hs.gives (In.make t dir s false).2.2 hs o (In.make t dir s false).1):=by unfold Hs.aQ;rw[if_neg (by omega),if_neg (by omega),if_neg (by omega),if_pos hk]
theorem vu{o:Int}{p:OpD}{dir:Int}{s:ByteArray}(hk:p.kind=4):Hs.aQ t hs o p dir s=(if In.findE t dir s≠0 then((In.findE t dir s,0,⟨#[]⟩),t,hs) else Hs.gives t hs o (In.findN t dir s)):=by unfold Hs.aQ;rw[if_neg (by omega),if_neg (by omega),if_neg (by omega),if_neg (by omega),if_pos hk]
theorem C_{o:Int}{p:OpD}{dir:Int}{s:ByteArray}(hk:p.kind=10):Hs.aQ t hs o p dir s=Hs.links t hs dir s p.dest:=by unfold Hs.aQ;rw[if_neg (by omega),if_neg (by omega),if_neg (by omega),if_neg (by omega),if_neg (by omega),if_pos hk]
theorem vv{o:Int}{p:OpD}{dir:Int}{s:ByteArray}(hk:p.kind=12):Hs.aQ t hs o p dir s=(if(Hs.place t p.dest).2.2≠0 then(((Hs.place t p.dest).2.2,0,⟨#[]⟩),t,hs) else(((In.rename t dir s (Hs.place t p.dest).1 (Hs.place t p.dest).2.1).1,0,⟨#[]⟩),(In.rename t dir s (Hs.place t p.dest).1 (Hs.place t p.dest).2.1).2,hs)):=by unfold Hs.aQ;rw[if_neg (by omega),if_neg (by omega),if_neg (by omega),if_neg (by omega),if_neg (by omega),if_neg (by omega)]
theorem Da(h:av X t zs hs w0)(I:In.Inv N t)(hN:N≤899990)(hl:hs.length≤900000)(o:Int)(p:OpD)(hp:ai p.path)(hd:ai p.dest)(hz:p.data.size≤1000000000)(hr:Hs.right p=false):Calls Tryz.prog 87 #[.pointer (some ⟨X.f,0,none⟩),.int .i64 o,.agg p.cells.toArray] w0 (yv X t zs hs w0 (Hs.aO t hs o p)):=by
 have hM:=St.start w0 []
 have bN:=qh (fun (W:World)=>zZ p hp hd W)
 have HS:=qh (fun (W:World) (hb:Below w0.heap.size w0 W)=>YG.same h hb)
 obtain⟨R,hR0⟩: ∃ R,Hs.aO t hs o p=R:=⟨_,rfl⟩
 rw[hR0]
 unfold Hs.aO at hR0
 rw[hr] at bN hR0
 rw[if_pos rfl] at hR0
 have HR0:=qh hR0
 obtain⟨kind,path,dest,hh,at_,n,data,pid,birth⟩:=p
 simp only at*
 unfold OpD.cells at*
 simp only at*
 clear h I hr hR0 hp hd hz hl
 go_enter Tryz.func87,Tryz.ntmps87
 (refine qw ?_;intros;rename_i hM)
 (refine qCB (bN.out _) hM ?_;clear hM;intro w' hM)
 (refine qw ?_;intros;rename_i hM)
 (refine qf ?_)
 rw[←HR0.out]
 exact⟨rfl,HS.out _ hM.to_below⟩
theorem pq(h:av X t zs hs w0)(I:In.Inv N t)(hN:N≤899990)(hl:hs.length≤900000)(o:Int)(p:OpD)(hp:ai p.path)(hd:ai p.dest)(hz:p.data.size≤1000000000)(hr:Hs.right p=true)(hk:p.kind=5∨p.kind=6∨p.kind=7∨p.kind=8∨p.kind=9):Calls Tryz.prog 87 #[.pointer (some ⟨X.f,0,none⟩),.int .i64 o,.agg p.cells.toArray] w0 (yv X t zs hs w0 (Hs.aO t hs o p)):=by
 rcases hk with hk|hk|hk|hk|hk
 all_goals as_aux_lemma=>
  obtain⟨xf,g,xs,xh,va,vc,rfl,hv,hM,bo,cN,cM,HB⟩:=ZF h
  have HV:=qh hv
  have HK:=qh h.hok
  have HL:=qh h.hlen
  have bN:=qh (fun (W:World)=>zZ p hp hd W)
  have HC:=qh (fun (W:World) hA=>Cn (bo.out W hA) I (by omega) o p hz)
  obtain⟨R,hR0⟩: ∃ R,Hs.aO t hs o p=R:=⟨_,rfl⟩
  rw[hR0]
  unfold Hs.aO at hR0
  rw[hr] at bN hR0
  rw[if_neg (by simp),if_pos (by omega)] at hR0
  have HR0:=qh hR0
  clear hR0
  generalize Hs.handled t hs o p=R1 at*
  obtain⟨kind,path,dest,hh,at_,n,data,pid,birth⟩:=p
  simp only at*
  unfold OpD.cells at*
  simp only at*
  subst hk
  clear h I hv hr hp hd hz hl
  go_enter Tryz.func87,Tryz.ntmps87
  (refine qw ?_;intros;rename_i hM)
  (refine qCB (bN.out _) hM ?_;clear hM;intro w' hM)
  (refine qw ?_;intros;rename_i hM)
  (refine qKx ?_;intro R hR)
  refine(HC.out _ (hM.part (Part.skip (Part.skip Part.all)))).mono ?_
  rintro e w' ⟨rfl,X2,aF,hto⟩
  have jC:=qh (Grow.trans (Grow.refl w0 _) hto.grow hM.only.size)
  rw[←zP (X:=⟨xf,⟨g,xs⟩,xh⟩) HV.out] at hM
  replace hM:=hM.az (Swap.skip (Swap.skip Swap.all)) hto.st Zr hto.grow
  refine qho ?_
  clear hR R
  have cL:=qh hto
  clear hto HC
  (refine qq ?_)
  (refine qw ?_;intros;rename_i hM)
  (refine qf ?_)
  rw[←HR0.out]
  exact⟨rfl,cL.out.fin hM.forget.forget rfl rfl jC.out⟩
theorem vw(h:av X t zs hs w0)(I:In.Inv N t)(hN:N≤899990)(hl:hs.length≤900000)(o:Int)(p:OpD)(hp:ai p.path)(hd:ai p.dest)(hz:p.data.size≤1000000000)(hr:Hs.right p=true)(hk:p.kind=3∨p.kind=4)(h8:8≤Hs.many hs o):Calls Tryz.prog 87 #[.pointer (some ⟨X.f,0,none⟩),.int .i64 o,.agg p.cells.toArray] w0 (yv X t zs hs w0 (Hs.aO t hs o p)):=by
 rcases hk with hk|hk
 all_goals as_aux_lemma=>
  obtain⟨xf,g,xs,xh,va,vc,rfl,hv,hM,bo,cN,cM,HB⟩:=ZF h
  have HV:=qh hv
  have HK:=qh h.hok
  have HL:=qh h.hlen
  have bN:=qh (fun (W:World)=>zZ p hp hd W)
  have kQ:=qh (fun (W:World) hA=>Yb (bo.out W hA) o)
  obtain⟨R,hR0⟩: ∃ R,Hs.aO t hs o p=R:=⟨_,rfl⟩
  rw[hR0]
  unfold Hs.aO at hR0
  rw[hr] at bN hR0
  rw[if_neg (by simp),if_neg (by omega),if_pos ⟨by omega,h8⟩] at hR0
  have HR0:=qh hR0
  clear hR0
  obtain⟨kind,path,dest,hh,at_,n,data,pid,birth⟩:=p
  simp only at*
  unfold OpD.cells at*
  simp only at*
  subst hk
  generalize Hs.many hs o=m at*
  have m8:decide ((8:Int)≤(m:Int))=true:=decide_eq_true (by omega)
  clear h I hv hr hp hd hz hl h8
  go_enter Tryz.func87,Tryz.ntmps87
  (refine qw ?_;intros;rename_i hM)
  (refine qCB (bN.out _) hM ?_;clear hM;intro w' hM)
  (refine qw ?_;intros;rename_i hM)
  (refine qCB (kQ.out _ (hM.part (Part.skip (Part.skip Part.all)))) hM ?_;clear hM;intro w' hM)
  (refine qw ?_;intros;rename_i hM)
  (refine qf ?_)
  rw[←HR0.out]
  exact⟨rfl,HB.out _ hM.forget.forget⟩
end
end
section
open Go.RowKit Go.Maps
section
variable {w w' w0:World}{F:List Nat}{L M:List Ent}{zs:List NodV}{x:RX}{t:TabD}{N:Nat}{q nx:Int}
theorem Db(h:bR x t zs w0)(I:In.Inv N t)(hN:N≤900000)(dir:Int)(s:ByteArray)(tod:Int)(as_:ByteArray)(hs:s.size≤1000000000)(hs2:as_.size≤1000000000):
  Calls Tryz.prog 147 #[.pointer (some ⟨x.g,0,none⟩),.int .i64 dir,.string s,.int .i64 tod,.string as_] w0 fun e w'=>e= .returned (.int .i64 (In.rename t dir s tod as_).1)∧cA x t zs (In.rename t dir s tod as_).2 w0 w':=by
 by_cases hF:In.findE t dir s=0
 ·obtain⟨d,hd,hdd,hl,dp⟩:=In.findE_ok hF
  obtain⟨n,hn⟩:=I.leads d (In.find_some hd).1 _ (In.leads_some hl)
  simp only at hn
  obtain⟨z,gR,iN⟩:=h.some hd
  obtain⟨y,lI,hyn⟩:=h.some hn
  subst iN hyn
  have hy:=(zu lI).1
  have hz:=(zu gR).1
  (obtain⟨g,xs,va,vc,U,rfl,hv,hU,hM,dX,dZ,bW,HB⟩:=XR h)
  obtain⟨ya,yc,bD,-⟩:=zf (h.raw.names y hy)
  have dt:=qh (fun (W:World) (hA:At ((g,true,Res.cells [.int .i64 t.quota,.int .i64 (t.last+1),.slice va zs.length vc] 146)::U) W)=>Zv (bW.out W hA) I hN dir s hs)
  have HG:=qh (fun (W:World) (hA:At ((g,true,Res.cells [.int .i64 t.quota,.int .i64 (t.last+1),.slice va zs.length vc] 146)::U) W)=>Zl (bW.out W hA).raw lI)
  rw[hF,dp] at dt
  rw[NodV.open bD] at HG
  cases bn:y.1.dir with
  |true=>
   have HE:=qh (In.bM (t:=t) (dir:=dir) (s:=s) (tod:=tod) (as_:=as_) (e:=12) (by decide) (by rw[In.fo (by rw[yk hF,dp,In.aI hn,bn];decide),yk hF,dp,In.aI hn,bn];rfl))
   rw[bn] at HG
   generalize In.leads z.1.names s=k at*
   (have HH:=qh h;have HI:=qh I;clear h I hv hU)
   clear hF hd hdd hl dp hn
   go_enter Tryz.func147,Tryz.ntmps147
   (refine qw ?_;intros;rename_i hM)
   (refine qCB (dt.out _ (hM.part qpt)) hM ?_;clear hM;intro w' hM)
   (refine qw ?_;intros;rename_i hM)
   (refine qCB (HG.out _ (hM.part qpt)) hM ?_;clear hM;intro w' hM)
   (refine qw ?_;intros;rename_i hM)
   ((refine qf ?_);(rw[HE.out]);exact⟨rfl,HB.out _ (hM.part qpt) hM.only⟩)
  |false=>
   rw[bn] at HG
   have ky:In.unlinkE t dir s=0:=by rw[yk hF,dp,In.aI hn,bn];rfl
   cases hft:Zd zs tod with
   |none=>
    have nf:In.placeE t tod as_=3:=In.bu (by rw[h.find tod,hft];rfl)
    have HE:=qh (In.bM (t:=t) (dir:=dir) (s:=s) (tod:=tod) (as_:=as_) (e:=3) (by decide) (by rw[In.dw ky (by rw[nf];decide),nf]))
    have HP:=qh (fun (W:World) (hA:At ((g,true,Res.cells [.int .i64 t.quota,.int .i64 (t.last+1),.slice va zs.length vc] 146)::U) W)=>YD (s:=as_) (bW.out W hA).raw hft)
    unfold nodZ at HP
    generalize In.leads z.1.names s=k at*
    (have HH:=qh h;have HI:=qh I;clear h I hv hU)
    clear hF hd hdd hl dp hn ky nf
    go_enter Tryz.func147,Tryz.ntmps147
    (refine qw ?_;intros;rename_i hM)
    (refine qCB (dt.out _ (hM.part qpt)) hM ?_;clear hM;intro w' hM)
    (refine qw ?_;intros;rename_i hM)
    (refine qCB (HG.out _ (hM.part qpt)) hM ?_;clear hM;intro w' hM)
    (refine qw ?_;intros;rename_i hM)
    (refine qCB (HP.out _ (hM.part qpt)) hM ?_;clear hM;intro w' hM)
    (refine qw ?_;intros;rename_i hM)
    ((refine qf ?_);(rw[HE.out]);exact⟨rfl,HB.out _ (hM.part qpt) hM.only⟩)
   |some v=>
    have iQ:=(zu hft).1
    have he:In.find t.nodes tod=some v.1:=by rw[h.find tod,hft];rfl
    obtain⟨wa,wc,hwv,-⟩:=zf (h.raw.names v iQ)
    have HP:=qh (fun (W:World) (hA:At ((g,true,Res.cells [.int .i64 t.quota,.int .i64 (t.last+1),.slice va zs.length vc] 146)::U) W)=>Yp (s:=as_) (bW.out W hA).raw hs2 hft)
    have gW:=qh (fun (W:World) (hA:At ((g,true,Res.cells [.int .i64 t.quota,.int .i64 (t.last+1),.slice va zs.length vc] 146)::U) W)=>YW v ((bW.out W hA).raw.nm (h.nl I hN) iQ) as_)
    have mq:=qh (fun (W:World) (hA:At ((g,true,Res.cells [.int .i64 t.quota,.int .i64 (t.last+1),.slice va zs.length vc] 146)::U) W)=>yo v ((bW.out W hA).raw.nm (h.nl I hN) iQ) as_)
    rw[NodV.open hwv] at HP gW mq
    rw[XW h hft as_] at HP
    have Dc:=qh (fun (u:NodV) (ng:Zd zs (In.leads v.1.names as_)=some u) (W:World) (hA:At ((g,true,Res.cells [.int .i64 t.quota,.int .i64 (t.last+1),.slice va zs.length vc] 146)::U) W)=>Zl (bW.out W hA).raw ng)
    have Dd:=qh (fun (n:NodeD) (hn:In.find t.nodes (In.leads v.1.names as_)=some n)=>h.some hn)
    have HNM:=qh h.raw.names
    (have HH:=qh h;have HI:=qh I;clear h I hv hU)
    generalize hk:In.leads z.1.names s=k at dt HG
    generalize hc:In.placeE t tod as_=c at HP
    generalize hi:In.leads v.1.names as_=i at gW
    go_enter Tryz.func147,Tryz.ntmps147
    (refine qw ?_;intros;rename_i hM)
    (refine qCB (dt.out _ (hM.part qpt)) hM ?_;clear hM;intro w' hM)
    (refine qw ?_;intros;rename_i hM)
    (refine qCB (HG.out _ (hM.part qpt)) hM ?_;clear hM;intro w' hM)
    (refine qw ?_;intros;rename_i hM)
    (refine qCB (HP.out _ (hM.part qpt)) hM ?_;clear hM;intro w' hM)
    (refine qw ?_;intros;rename_i hM)
    by_cases hc0:c=0
    ·subst hc0
     have lS:v.1.dir=true:=by
      obtain⟨d,h1,h2,-⟩:=In.placeE_ok hc
      rw[he] at h1
      rw[Option.some.inj h1]
      exact h2
     (refine qw ?_;intros;rename_i hM)
     (refine qCB (gW.out _ (hM.part qpt)) hM ?_;clear hM;intro w' hM)
     by_cases jd:i=k
     ·have q2:(i==k)=true:=beq_iff_eq.2 jd
      have HE:=qh (show In.rename t dir s tod as_=(0,t) by rw[In.dA (by rw[In.cC ky hc he,dp,hi,hk,if_pos jd]),In.dB he,dp,hi,hk,if_pos jd])
      have De:=qh jd
      clear jd hc hi hk he lS ky hF hd hdd hl dp hn
      (refine qw ?_;intros;rename_i hM)
      ((refine qf ?_);(rw[HE.out]);exact⟨rfl,HB.out _ (hM.part qpt) hM.only⟩)
     ·have q2:(i==k)=false:=qne.2 jd
      have o6:i=0∨0<i:=by rw[←hi];exact bR.lead HI.out he
      rcases o6 with hi0|hi0
      ·have HE:=qh (show In.rename t dir s tod as_=(0,In.renameIn t dir s tod as_ k) by rw[In.dA (by rw[In.cC ky hc he,dp,hi,hk,if_neg jd,if_pos hi0]),In.dB he,dp,hi,hk,if_neg jd,if_pos hi0])
       have HD2:=qh hd
       have Df:=qh (show In.leads v.1.names as_=0 by rw[hi];exact hi0)
       have Dg:=qh he
       have HLN:=qh hl
       have pr:=qh hk
       have HID:=qh (HH.out.ids HI.out)
       have k9:¬0<i:=by omega
       clear jd hc hi hk he lS ky hF hd hl dp hn hi0
       (refine qw ?_;intros;rename_i hM)
       rw[←dZ.out] at hM
       replace hM:=St.jB hM
       have d_:RP g xs t.quota (t.last+1) zs (ze (rL ⟨g,xs⟩ t.quota (t.last+1) zs)) w0:=dX.out
       have sC:=qh (show k≠0 by rw[←pr.out];exact HLN.out)
       have HM2:=qh (show ∃ d2 e2,In.find t.nodes dir=some d2∧d2.dir=true∧In.leads d2.names s=k∧In.find t.nodes tod=some e2∧In.leads e2.names as_=0 from ⟨z.1,v.1,HD2.out,hdd,pr.out,Dg.out,Df.out⟩)
       obtain⟨d2,e2,hd2,kR,hl2,pt,hw2⟩:=HM2.out
       obtain⟨e3,h3,ib,kS⟩:=In.fm HI.out hd2 kR (by rw[hl2];exact sC.out) pt hw2 k
       obtain⟨z2,ej,je⟩: ∃ z2,Zd zs dir=some z2∧z2.1=d2:=by
        have h1:=hd2
        rw[←HH.out.nodes,Yk] at h1
        cases h2:Zd zs dir with
        |none=>rw[h2] at h1;cases h1
        |some z2=>rw[h2] at h1;exact⟨z2,rfl,Option.some.inj h1⟩
       have kT:z2.1.names.length≤1000000:=by
        have h1:=q8 (In.find_some hd2).1
        have h2:=HI.out.tot
        rw[je]
        omega
       have kM:=qh (fun (W:World) (hA:At (rL ⟨g,xs⟩ t.quota (t.last+1) zs) W)=>Zl (d_.raw hA) ej)
       have kK:=qh (fun (W:World) (hA:At (rL ⟨g,xs⟩ t.quota (t.last+1) zs) W)=>yo z2 ⟨d_.names _ (zu ej).1,fun y hy=>(d_.raw hA).ents.has y (laZz.2 ⟨z2,(zu ej).1,hy⟩),kT⟩ s)
       obtain⟨ca,cc,hcv,-⟩:=zf (d_.names z2 (zu ej).1)
       rw[NodV.open hcv] at kM kK
       have nh:=qh (fun p'=>(show(rset zs ((z2.1.setNames (In.without z2.1.names s),p'):NodV)).map (·.1)=(In.nameOut (t) dir s).nodes by rw[zU,HH.out.nodes,je];exact In.bh HI.out hd2 s))
       have sD:=qh h3
       have mY:=qh ib
       have HN3:=qh kS
       have HF2:=qh ej
       have kU:=qh (HID.out)
       clear h3 ib kS ej hcv hd2 kR hl2 pt hw2 je kT
       (refine qw ?_;intros;rename_i hM)
       (refine qCB (kM.out _ (hM.part qpt)) hM ?_;clear hM;intro w' hM)
       (refine qw ?_;intros;rename_i hM)
       (refine qK3 (fun R hR=> ?_))
       refine(kK.out _ (hM.part qpt)).mono ?_
       rintro e w' ⟨p',rfl,hok,hst⟩;refine hR.out _ _ ?_;clear hR R
       replace hM:=hM.madeM hst (zo _ _ _ _)
       clear hst
       replace hM:=(St.jX hM).forget
       replace hM:=St.jX hM
       (refine qq ?_)
       (refine qw ?_;intros;rename_i hM)
       (refine qK3 (fun R hR=> ?_))
       refine(ZR d_ hM qsf kU.out hok).mono ?_
       rintro e w' ⟨rfl,s3,bm,pv⟩;refine hR.out _ _ ?_;clear hR R hM
       have hM:=St.gI bm qsw
       clear bm
       (refine qq ?_)
       (refine qw ?_;intros;rename_i hM)
       have fA:=nh.out p'
       generalize kV:rset zs ((z2.1.setNames (In.without z2.1.names s),p'):NodV)=fW at*
       obtain⟨v3,fB,jf⟩: ∃ v3,Zd fW tod=some v3∧v3.1=e3:=by
        have h1:=sD.out
        rw[←fA,Yk] at h1
        cases h2:Zd fW tod with
        |none=>rw[h2] at h1;cases h1
        |some v3=>rw[h2] at h1;exact⟨v3,rfl,Option.some.inj h1⟩
       have kW:v3.1.names.length≤1000000:=by
        have h1:=mY.out
        rw[jf]
        omega
       have fC:=pv
       have pw:=qh (fun (W:World) (hA:At (rL ⟨g,s3⟩ t.quota (t.last+1) fW) W)=>Zl (fC.raw hA) fB)
       have pz:=qh (fun (W:World) (hA:At (rL ⟨g,s3⟩ t.quota (t.last+1) fW) W)=>Xc v3 ⟨fC.names _ (zu fB).1,fun y hy=>(fC.raw hA).ents.has y (laZz.2 ⟨v3,(zu fB).1,hy⟩),kW⟩ as_ k)
       obtain⟨da,dc,pA,-⟩:=zf (fC.names v3 (zu fB).1)
       rw[NodV.open pA] at pw pz
       have nj:=qh (fun p'=>(show(rset fW ((v3.1.setNames (ins (as_,k) v3.1.names),p'):NodV)).map (·.1)=(In.renameIn (t) dir s tod as_ k).nodes by rw[zU,fA,jf];exact HN3.out))
       have nk:=qh (show Ids fW from kV▸yM _ kU.out)
       clear fB pA kV fA jf kW
       (refine qCB (pw.out _ (hM.part qpt)) hM ?_;clear hM;intro w' hM)
       (refine qw ?_;intros;rename_i hM)
       (refine qK3 (fun R hR=> ?_))
       refine(pz.out _ (hM.part qpt)).mono ?_
       rintro e w' ⟨p',rfl,hok,hst⟩;refine hR.out _ _ ?_;clear hR R
       replace hM:=hM.madeM hst (zo _ _ _ _)
       clear hst
       replace hM:=St.jX hM
       (refine qq ?_)
       (refine qw ?_;intros;rename_i hM)
       (refine qK3 (fun R hR=> ?_))
       refine(ZR fC hM qsf nk.out hok).mono ?_
       rintro e w' ⟨rfl,s4,bm,pB⟩;refine hR.out _ _ ?_;clear hR R hM
       have hM:=St.gI bm qsw
       clear bm
       (refine qq ?_)
       (refine qw ?_;intros;rename_i hM)
       (refine qf ?_)
       rw[HE.out]
       refine⟨rfl,s4,_,nj.out p', ?_⟩
       exact pB.to (hM.part qpt) hM.only
      ·obtain⟨nu,jE⟩:=HI.out.leads v.1 (In.find_some he).1 _ (In.leads_some (by rw[hi];omega))
       simp only at jE
       obtain⟨u,ng,Dh⟩:=Dd.out nu jE
       subst Dh
       have j7:=qh (Dc.out u ng)
       rw[hi] at j7
       have sE:=(zu ng).1
       obtain⟨ba,bc,hbv,-⟩:=zf (HNM.out u sE)
       rw[NodV.open hbv] at j7
       cases kr:u.1.dir with
       |true=>
        have HE:=qh (In.bM (t:=t) (dir:=dir) (s:=s) (tod:=tod) (as_:=as_) (e:=12) (by decide) (by rw[In.cC ky hc he,dp,hi,hk,if_neg jd,if_neg (by omega)];rw[hi] at jE;rw[In.at_some jE,kr];rfl))
        rw[kr] at j7
        clear jd hc hi hk he lS ky hF hd hdd hl dp hn jE ng
        (refine qw ?_;intros;rename_i hM)
        (refine qCB (j7.out _ (hM.part qpt)) hM ?_;clear hM;intro w' hM)
        (refine qw ?_;intros;rename_i hM)
        ((refine qf ?_);(rw[HE.out]);exact⟨rfl,HB.out _ (hM.part qpt) hM.only⟩)
       |false=>
        have HE:=qh (show In.rename t dir s tod as_=(0,In.renameIn (In.loses t tod as_) dir s tod as_ k) by rw[In.dA (by rw[In.cC ky hc he,dp,hi,hk,if_neg jd,if_neg (by omega)];rw[hi] at jE;rw[In.at_some jE,kr];rfl),In.dB he,dp,hi,hk,if_neg jd,if_neg (by omega)])
        rw[kr] at j7
        have rq:In.leads v.1.names as_≠0:=by rw[hi];omega
        have hne:In.leads v.1.names as_≠tod:=fun e=>by
         rw[e,he] at jE
         rw[Option.some.inj jE,kr] at lS
         cases lS
        have hu1:=In.gj HI.out he lS rq jE kr
        have hu2:u.1.links≤4000000:=by
         have h1:=HI.out.links u.1 (HH.out.mem sE)
         have h2:=In.cnt_le t.nodes u.1.id
         have h3:=HI.out.tot
         unfold In.rootI at h1
         split at h1<;> omega
        have iX:IntKind.i64.wrap (u.1.links - 1)=u.1.links - 1:=Za _ (by omega)
        have HID:=qh (HH.out.ids HI.out)
        have mo:=qh (fun p'=>Xl (z0:=((v.1.setNames (In.without v.1.names as_),p'):NodV)) sE (show u.1.id≠v.1.id by rw[(zu ng).2,(zu hft).2];exact hne))
        have gQ:=qh (fun p'=>(show(rset (rset zs ((v.1.setNames (In.without v.1.names as_),p'):NodV)) ((u.1.setLinks (u.1.links - 1),u.2):NodV)).map (·.1)=(In.loses t tod as_).nodes by
         rw[zU,zU,HH.out.nodes]
         show In.bt (In.bt t.nodes (v.1.setNames (In.without v.1.names as_))) (u.1.setLinks (u.1.links - 1))=_
         rw[In.bh HI.out he as_]
         exact In.dy HI.out he rfl jE hne rfl (by show 0≤u.1.links - 1;omega)))
        have iY:=qh (show NodV.cells (u.1.setLinks (u.1.links - 1),u.2)=[.int .i64 u.1.id,.bool false,.int .i64 (u.1.links - 1),.int .i64 u.1.holds,.string u.1.data,.slice ba u.1.names.length bc] by rw[NodV.open (z:=(u.1.setLinks (u.1.links - 1),u.2)) hbv,←kr];rfl)
        have HM2:=qh (In.iZ HI.out hd hdd hl he lS (by rw[hi,hk];exact jd) rq jE kr)
        rw[hk] at HM2
        have sC:=qh (show k≠0 by rw[←hk];exact hl)
        have sF:=qh (In.inv_loses HI.out he lS rq jE (fun e=>by rw[kr] at e;cases e))
        clear jd hc hi hk he lS ky hF hd hdd hl dp hn jE ng rq hne hu1 hu2 hbv kr
        (refine qw ?_;intros;rename_i hM)
        (refine qCB (j7.out _ (hM.part qpt)) hM ?_;clear hM;intro w' hM)
        (refine qw ?_;intros;rename_i hM)
        (refine qK3 (fun R hR=> ?_))
        refine(mq.out _ (hM.part qpt)).mono ?_
        rintro e w' ⟨p',rfl,hok,hst⟩;refine hR.out _ _ ?_;clear hR R
        replace hM:=hM.madeM hst (zo _ _ _ _)
        clear hst
        rw[←dZ.out] at hM
        replace hM:=(St.jX hM).sn.so
        (refine qq ?_)
        (refine qw ?_;intros;rename_i hM)
        (refine qK3 (fun R hR=> ?_))
        refine(ZR dX.out hM qsf HID.out hok).mono ?_
        rintro e w' ⟨rfl,s1,bm,kq⟩;refine hR.out _ _ ?_;clear hR R hM
        have hM:=St.gI bm qsw
        clear bm
        (refine qq ?_)
        (refine qw ?_;intros;rename_i hM)
        (refine qK3 (fun R hR=> ?_))
        have C:=yq kq hM qsf (yM _ HID.out) (mo.out p') (n:=u.1.setLinks (u.1.links - 1)) rfl rfl
        rw[iY.out] at C
        refine C.mono ?_
        clear C
        rintro e w' ⟨rfl,s2,bm,d_⟩;refine hR.out _ _ ?_;clear hR R hM
        have hM:=St.gI bm qsw
        clear bm
        replace hM:=(St.forget hM).jB
        have kH:=qh (gQ.out p')
        have pC:=qh (yM ((u.1.setLinks (u.1.links - 1),u.2):NodV) (yM ((v.1.setNames (In.without v.1.names as_),p'):NodV) HID.out))
        generalize rset (rset zs ((v.1.setNames (In.without v.1.names as_),p'):NodV)) ((u.1.setLinks (u.1.links - 1),u.2):NodV)=aF at*
        clear mo gQ iX
        (refine qq ?_)
        obtain⟨d2,e2,hd2,kR,hl2,pt,hw2⟩:=HM2.out
        obtain⟨e3,h3,ib,kS⟩:=In.fm sF.out hd2 kR (by rw[hl2];exact sC.out) pt hw2 k
        obtain⟨z2,ej,je⟩: ∃ z2,Zd aF dir=some z2∧z2.1=d2:=by
         have h1:=hd2
         rw[←kH.out,Yk] at h1
         cases h2:Zd aF dir with
         |none=>rw[h2] at h1;cases h1
         |some z2=>rw[h2] at h1;exact⟨z2,rfl,Option.some.inj h1⟩
        have kT:z2.1.names.length≤1000000:=by
         have h1:=q8 (In.find_some hd2).1
         have h2:=sF.out.tot
         rw[je]
         omega
        have kM:=qh (fun (W:World) (hA:At (rL ⟨g,s2⟩ t.quota (t.last+1) aF) W)=>Zl (d_.raw hA) ej)
        have kK:=qh (fun (W:World) (hA:At (rL ⟨g,s2⟩ t.quota (t.last+1) aF) W)=>yo z2 ⟨d_.names _ (zu ej).1,fun y hy=>(d_.raw hA).ents.has y (laZz.2 ⟨z2,(zu ej).1,hy⟩),kT⟩ s)
        obtain⟨ca,cc,hcv,-⟩:=zf (d_.names z2 (zu ej).1)
        rw[NodV.open hcv] at kM kK
        have nh:=qh (fun p'=>(show(rset aF ((z2.1.setNames (In.without z2.1.names s),p'):NodV)).map (·.1)=(In.nameOut (In.loses t tod as_) dir s).nodes by rw[zU,kH.out,je];exact In.bh sF.out hd2 s))
        have sD:=qh h3
        have mY:=qh ib
        have HN3:=qh kS
        have HF2:=qh ej
        have kU:=qh (pC.out)
        clear h3 ib kS ej hcv hd2 kR hl2 pt hw2 je kT
        (refine qw ?_;intros;rename_i hM)
        (refine qCB (kM.out _ (hM.part qpt)) hM ?_;clear hM;intro w' hM)
        (refine qw ?_;intros;rename_i hM)
        (refine qK3 (fun R hR=> ?_))
        refine(kK.out _ (hM.part qpt)).mono ?_
        rintro e w' ⟨p',rfl,hok,hst⟩;refine hR.out _ _ ?_;clear hR R
        replace hM:=hM.madeM hst (zo _ _ _ _)
        clear hst
        replace hM:=(St.jX hM).forget
        replace hM:=St.jX hM
        (refine qq ?_)
        (refine qw ?_;intros;rename_i hM)
        (refine qK3 (fun R hR=> ?_))
        refine(ZR d_ hM qsf kU.out hok).mono ?_
        rintro e w' ⟨rfl,s3,bm,pv⟩;refine hR.out _ _ ?_;clear hR R hM
        have hM:=St.gI bm qsw
        clear bm
        (refine qq ?_)
        (refine qw ?_;intros;rename_i hM)
        have fA:=nh.out p'
        generalize kV:rset aF ((z2.1.setNames (In.without z2.1.names s),p'):NodV)=fW at*
        obtain⟨v3,fB,jf⟩: ∃ v3,Zd fW tod=some v3∧v3.1=e3:=by
         have h1:=sD.out
         rw[←fA,Yk] at h1
         cases h2:Zd fW tod with
         |none=>rw[h2] at h1;cases h1
         |some v3=>rw[h2] at h1;exact⟨v3,rfl,Option.some.inj h1⟩
        have kW:v3.1.names.length≤1000000:=by
         have h1:=mY.out
         rw[jf]
         omega
        have fC:=pv
        have pw:=qh (fun (W:World) (hA:At (rL ⟨g,s3⟩ t.quota (t.last+1) fW) W)=>Zl (fC.raw hA) fB)
        have pz:=qh (fun (W:World) (hA:At (rL ⟨g,s3⟩ t.quota (t.last+1) fW) W)=>Xc v3 ⟨fC.names _ (zu fB).1,fun y hy=>(fC.raw hA).ents.has y (laZz.2 ⟨v3,(zu fB).1,hy⟩),kW⟩ as_ k)
        obtain⟨da,dc,pA,-⟩:=zf (fC.names v3 (zu fB).1)
        rw[NodV.open pA] at pw pz
        have nj:=qh (fun p'=>(show(rset fW ((v3.1.setNames (ins (as_,k) v3.1.names),p'):NodV)).map (·.1)=(In.renameIn (In.loses t tod as_) dir s tod as_ k).nodes by rw[zU,fA,jf];exact HN3.out))
        have nk:=qh (show Ids fW from kV▸yM _ kU.out)
        clear fB pA kV fA jf kW
        (refine qCB (pw.out _ (hM.part qpt)) hM ?_;clear hM;intro w' hM)
        (refine qw ?_;intros;rename_i hM)
        (refine qK3 (fun R hR=> ?_))
        refine(pz.out _ (hM.part qpt)).mono ?_
        rintro e w' ⟨p',rfl,hok,hst⟩;refine hR.out _ _ ?_;clear hR R
        replace hM:=hM.madeM hst (zo _ _ _ _)
        clear hst
        replace hM:=St.jX hM
        (refine qq ?_)
        (refine qw ?_;intros;rename_i hM)
        (refine qK3 (fun R hR=> ?_))
        refine(ZR fC hM qsf nk.out hok).mono ?_
        rintro e w' ⟨rfl,s4,bm,pB⟩;refine hR.out _ _ ?_;clear hR R hM
        have hM:=St.gI bm qsw
        clear bm
        (refine qq ?_)
        (refine qw ?_;intros;rename_i hM)
        (refine qf ?_)
        rw[HE.out]
        refine⟨rfl,s4,_,nj.out p', ?_⟩
        rw[show(In.renameIn (In.loses t tod as_) dir s tod as_ k).quota=t.quota from (In.dg tod as_).1,show(In.renameIn (In.loses t tod as_) dir s tod as_ k).last=t.last from (In.dg tod as_).2]
        exact pB.to (hM.part qpt) hM.only
    ·have q1:(c != 0)=true:=bne_iff_ne.2 hc0
     have HE:=qh (In.bM (t:=t) (dir:=dir) (s:=s) (tod:=tod) (as_:=as_) (e:=c) hc0 (by rw[In.dw ky (by rw[hc];exact hc0),hc]))
     clear hc hc0 hi hk he ky hF hd hdd hl dp hn
     rw[q1]
     (refine qw ?_;intros;rename_i hM)
     ((refine qf ?_);(rw[HE.out]);exact⟨rfl,HB.out _ (hM.part qpt) hM.only⟩)
 ·(obtain⟨g,xs,va,vc,U,rfl,hv,hU,hM,dX,dZ,bW,HB⟩:=XR h)
  have dt:=qh (fun (W:World) (hA:At ((g,true,Res.cells [.int .i64 t.quota,.int .i64 (t.last+1),.slice va zs.length vc] 146)::U) W)=>Zv (bW.out W hA) I hN dir s hs)
  have HE:=qh (show In.rename t dir s tod as_=(In.findE t dir s,t) from In.bM hF (by rw[In.fo (by rw[xG hF];exact hF),xG hF]))
  generalize In.findE t dir s=c at*
  generalize In.findN t dir s=k at*
  have q1:(c != 0)=true:=bne_iff_ne.2 hF
  (have HH:=qh h;have HI:=qh I;clear h I hv hU)
  clear hF
  go_enter Tryz.func147,Tryz.ntmps147
  (refine qw ?_;intros;rename_i hM)
  (refine qCB (dt.out _ (hM.part qpt)) hM ?_;clear hM;intro w' hM)
  (refine qw ?_;intros;rename_i hM)
  ((refine qf ?_);(rw[HE.out]);exact⟨rfl,HB.out _ (hM.part qpt) hM.only⟩)
end
end
end Go.Proofs.YtcicjklhbnipcaaGreatDoor
