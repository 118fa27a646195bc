/-
  Laid texts.
-/
import Derived.Test.YtcicjklhbnipcaaGreatDoorPkWpM
set_option maxHeartbeats 16000000
set_option maxRecDepth 1000000
set_option linter.unusedVariables false
set_option linter.unusedSimpArgs false
namespace Go.Proofs.YtcicjklhbnipcaaGreatDoor
section
open Go.RowKit Go.Maps
structure mJ where
 t:Nat
 s:Option (Nat×Nat)
def aE(l:List (Int×Int)):List Value:=l.flatMap fun x=>[.int .i64 x.1,.int .i64 x.2]
abbrev oO(s:Option (Nat×Nat))(l:List (Int×Int)):List Ent:=slL s (aE l) 158 2
def gH(X:mJ)(P:aT):List Ent:=(X.t,true,.cells [slV X.s P.aa.length,.int .i64 P.last] 156)::oO X.s P.aa
structure e_ (X:mJ) (P:aT) (w:World):Prop where
 at_:At (gH X P) w
 ok:SlOK X.s P.aa.length (aE P.aa) 2
 fit:Pc.Fit P
def kj(X:mJ)(P P':aT)(w w':World):Prop:= ∃ X',X'.t=X.t∧SlOK X'.s P'.aa.length (aE P'.aa) 2∧St w (ze (gH X P)) w' (gH X' P')
section
variable {w w' w0:World}{X:mJ}{P:aT}{F:List Nat}{L:List Ent}
theorem Gp(X:mJ)(P:aT):zO (gH X P):=fun y hy=>by
 unfold gH at hy
 rcases laBz.1 hy with rfl|hy
 ·rfl
 ·exact zo _ _ _ _ y hy
theorem Yv: ∀ l:List (Int×Int),(aE l).length=l.length*2
 |[]=>rfl
 |x::r=>by
  have:=Yv r
  unfold aE at this ⊢
  rw[laOz,laNz,this]
  simp only[laPz,lcGz]
  omega
theorem xN: ∀ l:List (Int×Int),(aE l).all (·.oneCell')=true
 |[]=>rfl
 |x::r=>by
  have:=xN r
  unfold aE at this ⊢
  rw[laOz,ldOz,this]
  rfl
theorem tI: ∀ (d:List (Int×Int)) (k:Nat),aE (d.take k)=(aE d).take (k*2)
 |[],k=>by cases k<;> rfl
 |p::r,0=>rfl
 |p::r,k+1=>by
  rw[ldTz]
  have:=tI r k
  unfold aE at*
  rw[laOz,laOz,this,show(k+1)*2=k*2+2 by omega]
  rfl
theorem xU: ∀ (d:List (Int×Int)) (k:Nat),aE (d.drop k)=(aE d).drop (k*2)
 |[],k=>by cases k<;> rfl
 |p::r,0=>rfl
 |p::r,k+1=>by
  rw[ldSz,xU r k,show(k+1)*2=k*2+2 by omega]
  unfold aE
  rw[laOz]
  rfl
theorem Gq{l:List (Int×Int)}{k:Nat}{x:Int×Int}(h:l[k]? =some x):(aE l)[k*2]? =some (.int .i64 x.1)∧(aE l)[k*2+1]? =some (.int .i64 x.2):=by
 have hd:l.drop k=x::l.drop (k+1):=by rw[lbIz (laHz.1 h).1,(laHz.1 h).2]
 have g: ∀ i,(aE l)[k*2+i]? =(aE (l.drop k))[i]? :=fun i=>by rw[xU,lcFz]
 refine⟨?_, ?_⟩
 ·have:=g 0
  rw[Nat.add_zero] at this
  rw[this,hd]
  rfl
 ·rw[g 1,hd]
  rfl
theorem rP{g cap:Nat}{l:List (Int×Int)}(hA:At (oO (some (g,cap)) l) w){k:Nat}{x:Int×Int}(h:l[k]? =some x):w.rangeAt g (k*2) [.int .i64 x.1,.int .i64 x.2]:=fun j v hj=>by
 obtain⟨h0,h1⟩:=Gq h
 match j,hj with
 |0,hj=>cases hj;exact Res.cell (hA.has (g,true,.pre (aE l) 158 (cap*2)) (.head _)) h0
 |1,hj=>cases hj;exact Res.cell (hA.has (g,true,.pre (aE l) 158 (cap*2)) (.head _)) h1
 |_+2,hj=>cases hj
theorem e_.row(h:e_ X P w):w.rangeAt X.t 0 [slV X.s P.aa.length,.int .i64 P.last]:=Res.range (q:=0) (n:=2) (h.at_.has _ (.head _)) (Nat.le_refl _)
theorem e_.bV(h:e_ X P w):At (oO X.s P.aa) w:=h.at_.sub (List.sublist_cons_self _ _)
theorem e_.below(h:e_ X P w)(hb:Below w.heap.size w w'):e_ X P w':=⟨h.at_.below hb,h.ok,h.fit⟩
theorem Gr(x:Int×Int)(r:List (Int×Int))(p:Int):Pc.birth (x::r) p=if x.1=p then x.2 else Pc.birth r p:=by
 unfold Pc.birth
 rw[lbGz]
 by_cases h:x.1=p
 ·rw[if_pos h,beq_iff_eq.2 h]
 ·rw[if_neg h,qne.2 h]
theorem AA(h:Pc.Fit P){p:Int}:Pc.birth P.aa p=0↔ ∀ x∈P.aa,x.1≠p:=by
 constructor
 ·intro h0 x hx e
  have:Pc.birth P.aa p≠0:=by
   unfold Pc.birth
   cases hf:P.aa.find? fun y=>y.1==p with
   |none=>
    have:=(lcNz.1 hf) x hx
    simp[e] at this
   |some y=>
    have:=h.aa y (laUz hf)
    show y.2≠0
    omega
  exact this h0
 ·intro hx
  unfold Pc.birth
  rw[lcNz.2 fun x h1=>by simpa using hx x h1]
theorem AB{p:Int}(h: ∀ x∈P.aa,x.1≠p):Pc.del P.aa p=P.aa:=lcLz.2 fun x hx=>by simpa using h x hx
theorem e_.tJ(h:e_ X P w):St w [X.t] w [(X.t,true,.cells [slV X.s P.aa.length,.int .i64 P.last] 156)]:=
 ⟨Only.refl _ w,fun y hy=>h.at_.has y (by rcases laGz.1 hy with rfl;exact .head _),by simp,fun y hy _=> .inl (by rcases laGz.1 hy with rfl;exact .head _)⟩
theorem e_.apart{g cap:Nat}(h:e_ X P w)(e:X.s=some (g,cap)):g∉[X.t]:=fun hm=>by
 have hnd:=h.at_.nd
 unfold gH at hnd
 rw[e] at hnd
 rcases laGz.1 hm with rfl
 exact(laTz.1 hnd).1 (.head _)
theorem e_.AD(h:e_ X P w0)(hM:St w0 [X.t] w ((X.t,true,.cells [slV X.s P.aa.length,.int .i64 P.last] 156)::L)):e_ X P w:=by
 refine⟨⟨fun y hy=> ?_,h.at_.nd⟩,h.ok,h.fit⟩
 unfold gH at hy
 rcases laBz.1 hy with rfl|hy
 ·exact hM.holds _ (.head _)
 ·have hk:y.1∈ze (oO X.s P.aa):=laLz hy
  rw[hM.only.block y.1 (h.bV.lt _ hk) (fun hm=>by
   have hnd:=h.at_.nd
   unfold gH at hnd
   rw[laGz.1 hm] at hk
   exact(laTz.1 hnd).1 hk)]
  exact h.bV.has y hy
theorem e_.same(h:e_ X P w0)(hM:St w0 [X.t] w ((X.t,true,.cells [slV X.s P.aa.length,.int .i64 P.last] 156)::L)):kj X P P w0 w:=
 ⟨X,rfl,h.ok,hM.only.mono (fun k hk=>by rcases laGz.1 hk with rfl;exact .head _),(h.AD hM).at_.has,h.at_.nd,fun y hy _=> .inl (laLz hy)⟩
theorem St.me{X':mJ}{P':aT}(hM:St w0 [X.t] w (gH X' P'))(ht:X'.t=X.t)(hk:SlOK X'.s P'.aa.length (aE P'.aa) 2):kj X P P' w0 w:=
 ⟨X',ht,hk,hM.only.mono (fun k hk=>by rcases laGz.1 hk with rfl;exact .head _),hM.holds,hM.nd,fun y hy h1=>(hM.own y hy h1).imp (fun hk=>by rw[laGz.1 hk];exact .head _) id⟩
theorem Yh(h:e_ X P w0)(pid:Int):An 54 #[.pointer (some ⟨X.t,0,none⟩),.int .i64 pid] w0 (.tuple #[.int .i64 (Pc.birth P.aa pid),.int .i64 (Pc.bd P pid)]):=by
 have hM:=St.start w0 []
 have hrow:=h.row
 have HN:=qh h.bV
 have HS:=qh h.ok
 have nP:=h.fit.few
 have HF:=qh h.fit
 obtain⟨va,vc,hv,hva⟩:=zf h.ok
 rw[hv] at hrow
 obtain⟨xt,xs⟩:=X
 simp only at hrow HN HS hva ⊢
 have c0:w0.cell? ⟨xt,0,none⟩=some (.slice va P.aa.length vc):=hrow 0 _ rfl
 obtain⟨R,hR⟩: ∃ R,Pc.birth P.aa pid=R:=⟨_,rfl⟩
 obtain⟨R2,mf⟩: ∃ R2,Pc.bd P pid=R2:=⟨_,rfl⟩
 have lu:=qh (show R2=if R=0 then 3 else 0 by rw[←mf,←hR];rfl)
 rw[hR,mf]
 have HR:=qh hR
 obtain⟨aa,last⟩:=P
 simp only at*
 clear h hrow hv hR mf
 go_enter Tryz.func54,Tryz.ntmps54
 (refine qw ?_;intros;rename_i hM)
 go_loopw [6] (fun i wr=> ∃ k:Nat,k≤aa.length∧i= .int .i64 k∧Hid (Pc.birth (aa.drop k) pid=R)∧St w0 [] wr []) (fun i _=>aa.length - (intOf i).toNat)
 case atStart=>exact⟨0,by omega,rfl,HR,hM⟩
 case round=>
  clear hM
  obtain⟨k,hk,rfl,HB,hM⟩:=hrel
  by_cases hlt:k<aa.length
  ·obtain⟨x,hx⟩:=zK hlt
   have k1:(k:Int)<(aa.length:Int):=by omega
   rcases xs with _|⟨g1,cap1⟩
   ·exact absurd HS.out.2 (by omega)
   obtain⟨rfl,rfl⟩:=hva g1 cap1 rfl
   have r1:=rP HN.out hx
   have c1:w0.cell? ⟨g1,k*2,none⟩=some (.int .i64 x.1):=r1 0 _ rfl
   have c2:w0.cell? ⟨g1,k*2+1,none⟩=some (.int .i64 x.2):=r1 1 _ rfl
   have hd:aa.drop k=x::aa.drop (k+1):=by rw[lbIz hlt,(laHz.1 hx).2]
   have hB:=HB.out
   rw[hd,Gr] at hB
   have hx2:=HF.out.aa x (laQz hx)
   simp only at hx2
   by_cases he:x.1=pid
   ·rw[if_pos he] at hB
    have q1:(x.1==pid)=true:=beq_iff_eq.2 he
    have HE:=qh (show x.2=R∧(0:Int)=R2 from ⟨hB,by rw[lu.out,if_neg (by omega)]⟩)
    clear hB HB hd hx r1 he hlt hx2
    (refine qw ?_;intros;rename_i hM)
    (refine qf ?_)
    exact⟨by rw[←HE.out.1,←HE.out.2];rfl,hM.to_below⟩
   ·rw[if_neg he] at hB
    have q1:(x.1==pid)=false:=qne.2 he
    have HB2:=qh hB
    clear hB HB hd hx r1 he hlt hx2
    (refine qw ?_;intros;rename_i hM)
    (try simp only[Exit.then])
    (refine⟨?_,qio⟩;repeat(first|exact⟨⟨k+1,by omega,rfl,HB2,hM⟩,rfl⟩|apply Exists.intro))
  ·have k0:¬((k:Int)<(aa.length:Int)):=by omega
   obtain rfl:k=aa.length:=by omega
   have hB:=HB.out
   rw[lcPz] at hB
   have HE:=qh (show(0:Int)=R∧(3:Int)=R2 from ⟨hB,by rw[lu.out,if_pos (show R=0 from hB.symm)]⟩)
   clear hlt hk hB HB
   (refine qw ?_;intros;rename_i hM)
   (refine qf ?_)
   exact⟨by rw[←HE.out.1,←HE.out.2];rfl,hM.to_below⟩
theorem Gs(h:e_ X P w0)(pid b:Int):An 154 #[.pointer (some ⟨X.t,0,none⟩),.int .i64 pid,.int .i64 b] w0 (.bool (Pc.alive P pid b)):=by
 have hM:=St.start w0 []
 have HB:=qh (fun (W:World) (hb:Below w0.heap.size w0 W)=>Yh (h.below hb) pid)
 unfold Pc.alive Pc.bd at*
 generalize Pc.birth P.aa pid=v at*
 clear h
 by_cases h0:v=0
 ·rw[if_pos h0] at HB
  rw[decide_eq_false (show ¬v≠0 from fun h=>h h0)]
  go_enter Tryz.func154,Tryz.ntmps154
  (refine qw ?_;intros;rename_i hM)
  (refine qCB (HB.out _ hM.to_below) hM ?_;clear hM;intro w' hM)
  exact qwf
 ·rw[if_neg h0] at HB
  rw[decide_eq_true (show v≠0 from h0)]
  clear h0
  by_cases h1:v=b
  ·have q1:(v==b)=true:=beq_iff_eq.2 h1
   rw[decide_eq_true h1]
   clear h1
   go_enter Tryz.func154,Tryz.ntmps154
   (refine qw ?_;intros;rename_i hM)
   (refine qCB (HB.out _ hM.to_below) hM ?_;clear hM;intro w' hM)
   exact qwf
  ·have q1:(v==b)=false:=qne.2 h1
   rw[decide_eq_false h1]
   clear h1
   go_enter Tryz.func154,Tryz.ntmps154
   (refine qw ?_;intros;rename_i hM)
   (refine qCB (HB.out _ hM.to_below) hM ?_;clear hM;intro w' hM)
   exact qwf
theorem Gt(h:e_ X P w0):Calls Tryz.prog 58 #[.pointer (some ⟨X.t,0,none⟩)] w0 (rC (Pc.fR P) w0):=by
 have hM:=St.start w0 []
 have hrow:=h.row
 have HN:=qh h.bV
 have HS:=qh h.ok
 have nP:=h.fit.few
 obtain⟨va,vc,hv,hva⟩:=zf h.ok
 rw[hv] at hrow
 obtain⟨xt,xs⟩:=X
 simp only at hrow HN HS hva ⊢
 have c0:w0.cell? ⟨xt,0,none⟩=some (.slice va P.aa.length vc):=hrow 0 _ rfl
 obtain⟨aa,last⟩:=P
 unfold Pc.fR
 simp only at*
 clear h hrow hv
 go_enter Tryz.func58,Tryz.ntmps58
 (refine qw ?_;intros;rename_i hM)
 change St w0 [] _ (slL none (([]:List Int).map (Value.int .i64)) 3 1) at hM
 go_loopw [3,4] (fun o i wr=> ∃ (k:Nat) (s:Option (Nat×Nat)) (ys:List Int),k≤aa.length∧i= .int .i64 k∧o=slV s ys.length∧ys.length≤k∧Hid (ys=(aa.take k).map Prod.fst)∧Hid (SlOK s ys.length (ys.map (Value.int .i64)) 1)∧St w0 [] wr (slL s (ys.map (Value.int .i64)) 3 1)) (fun _ i _=>aa.length - (intOf i).toNat)
 case atStart=>exact⟨0,none,[],by omega,rfl,rfl,Nat.le_refl _,qh rfl,qh ⟨rfl,rfl⟩,hM⟩
 case round=>
  clear hM
  obtain⟨k,s,ys,hk,rfl,rfl,hyk,HY,HK,hM⟩:=hrel
  obtain⟨ua,uc,hu,-⟩:=zf HK.out
  have HU:=qh hu
  by_cases hlt:k<aa.length
  ·obtain⟨x,hx⟩:=zK hlt
   have k1:(k:Int)<(aa.length:Int):=by omega
   rcases xs with _|⟨g1,cap1⟩
   ·exact absurd HS.out.2 (by omega)
   obtain⟨rfl,rfl⟩:=hva g1 cap1 rfl
   have r1:=rP HN.out hx
   have c1:w0.cell? ⟨g1,k*2,none⟩=some (.int .i64 x.1):=r1 0 _ rfl
   have HY2:=qh (show ys++[x.1]=(aa.take (k+1)).map Prod.fst by rw[lbJz,hx,Option.toList_some,laMz,←HY.out];rfl)
   rw[hu]
   clear hx r1 hlt hu
   (refine qw ?_;intros;rename_i hM)
   rw[←HU.out]
   refine St.append (s:=s) (n:=ys.length) (xs:=ys.map (Value.int .i64)) rfl hM rfl rfl rfl rfl rfl (by kernel_rfl) qsf HK.out rfl (hM.news qm) rfl (by rw[zj];omega) (by omega) (fun h=>by cases h) ?_
   clear hM;intro w s2 hM hk2 _
   have e1:ys.map (Value.int .i64)++[.int .i64 x.1]=(ys++[x.1]).map (Value.int .i64):=by simp
   have e2:ys.length+1=(ys++[x.1]).length:=by simp
   simp only[Res.known] at hM hk2
   rw[e1] at hM hk2
   rw[e2] at hk2 ⊢
   have hyl:(ys++[x.1]).length≤k+1:=by rw[←e2];omega
   have HK2:=qh hk2
   generalize ys++[x.1]=kB at*
   obtain⟨ub,ud,hu2,-⟩:=zf hk2
   have nO:=qh hu2
   rw[hu2]
   clear e1 e2 hk2 hu2
   (refine qq ?_)
   (refine qw ?_;intros;rename_i hM)
   replace hM:=hM.forget
   (try simp only[Exit.then])
   rw[←nO.out]
   (refine⟨?_,qio⟩;repeat(first|exact⟨⟨k+1,s2,kB,by omega,rfl,rfl,hyl,HY2,HK2,hM⟩,rfl⟩|apply Exists.intro))
  ·have k0:¬((k:Int)<(aa.length:Int)):=by omega
   obtain rfl:k=aa.length:=by omega
   have hy:=HY.out
   rw[lbSz] at hy
   subst hy
   rw[hu]
   clear hlt hk hu HY
   (refine qw ?_;intros;rename_i hM)
   (refine qf ?_)
   exact⟨s,by rw[HU.out];rfl,HK.out,hM⟩
theorem Gu(h:e_ X P w0)(pid:Int):Calls Tryz.prog 153 #[.pointer (some ⟨X.t,0,none⟩),.int .i64 pid] w0 fun e w'=>e= .returned (.int .i64 (Pc.kill P pid).1)∧kj X P (Pc.kill P pid).2 w0 w':=by
 have hM:=h.tJ
 have HN:=qh h.bV
 have HS:=qh h.ok
 have nP:=h.fit.few
 have fc:=qh (fun g cap (e:X.s=some (g,cap))=>h.apart e)
 have HZ:=qh (AA h.fit (p:=pid))
 obtain⟨va,vc,hv,hva⟩:=zf h.ok
 rw[hv] at hM
 obtain⟨xt,xs⟩:=X
 obtain⟨aa,last⟩:=P
 have HV:=qh hv
 have HH:=qh h
 simp only at*
 obtain⟨R,hR0⟩: ∃ R,Pc.kill ⟨aa,last⟩ pid=R:=⟨_,rfl⟩
 rw[hR0]
 have AE:=qh (show(Pc.birth aa pid=0→R=(3,⟨aa,last⟩))∧(Pc.birth aa pid≠0→R=(0,⟨Pc.del aa pid,last⟩)) by
  rw[←hR0]
  unfold Pc.kill
  exact⟨fun h=>if_pos h,fun h=>if_neg h⟩)
 clear h hv hR0
 go_enter Tryz.func153,Tryz.ntmps153
 (refine qw ?_;intros;rename_i hM)
 have bJ:St w0 [xt] _ (_::slL none (aE []) 158 2):=hM
 clear hM
 have hM:=bJ
 clear bJ
 go_loopw [5,6] (fun o i wr=> ∃ (k:Nat) (s:Option (Nat×Nat)) (ys:List (Int×Int)),k≤aa.length∧i= .int .i64 k∧o=slV s ys.length∧ys.length≤k∧Hid (ys=Pc.del (aa.take k) pid)∧Hid (SlOK s ys.length (aE ys) 2)∧St w0 [xt] wr ((xt,true,Res.cells [.slice va aa.length vc,.int .i64 last] 156)::oO s ys)) (fun _ i _=>aa.length - (intOf i).toNat)
 case atStart=>exact⟨0,none,[],by omega,rfl,rfl,Nat.le_refl _,qh rfl,qh ⟨rfl,rfl⟩,hM⟩
 case round=>
  clear hM
  obtain⟨k,s,ys,hk,rfl,rfl,hyk,HY,HK,hM⟩:=hrel
  obtain⟨ua,uc,hu,-⟩:=zf HK.out
  have HU:=qh hu
  by_cases hlt:k<aa.length
  ·obtain⟨x,hx⟩:=zK hlt
   have k1:(k:Int)<(aa.length:Int):=by omega
   rcases xs with _|⟨g1,cap1⟩
   ·exact absurd HS.out.2 (by omega)
   obtain⟨rfl,rfl⟩:=hva g1 cap1 rfl
   have oN:=fc.out g1 _ rfl
   have r1:=rP HN.out hx
   have c1:w0.cell? ⟨g1,k*2,none⟩=some (.int .i64 x.1):=r1 0 _ rfl
   have hst:Pc.del (aa.take (k+1)) pid=Pc.del (aa.take k) pid++(if x.1=pid then [] else [x]):=by
    unfold Pc.del
    rw[lbJz,hx,Option.toList_some,ldEz]
    by_cases he:x.1=pid<;> simp[he]
   rw[hu]
   clear hx hu
   by_cases he:x.1=pid
   ·rw[if_pos he,laYz] at hst
    have q1:(x.1 != pid)=false:=by unfold bne;rw[beq_iff_eq.2 he];rfl
    have HY2:=qh (HY.out.trans hst.symm)
    clear hst he r1 hlt HY
    (refine qw ?_;intros;rename_i hM)
    (try simp only[Exit.then])
    rw[←HU.out]
    (refine⟨?_,qio⟩;repeat(first|exact⟨⟨k+1,s,ys,by omega,rfl,rfl,by omega,HY2,HK,hM⟩,rfl⟩|apply Exists.intro))
   ·rw[if_neg he] at hst
    have q1:(x.1 != pid)=true:=bne_iff_ne.2 he
    have HY2:=qh (show ys++[x]=Pc.del (aa.take (k+1)) pid by rw[hst,HY.out])
    clear hst he hlt HY
    obtain⟨x1,x2⟩:=x
    simp only at*
    (refine qw ?_;intros;rename_i hM)
    rw[←HU.out]
    refine St.append (s:=s) (n:=ys.length) (xs:=aE ys) rfl hM rfl rfl rfl rfl rfl (by kernel_rfl) qsf HK.out rfl (hM.news qm) rfl (by rw[zj];omega) (by omega) (fun h=>by cases h) ?_
    clear hM;intro w s2 hM hk2 _
    have e1:aE ys++[.int .i64 x1,.int .i64 x2]=aE (ys++[(x1,x2)]):=by unfold aE;rw[laWz];rfl
    have e2:ys.length+1=(ys++[(x1,x2)]).length:=by simp
    simp only[Res.known] at hM hk2
    rw[e1] at hM hk2
    rw[e2] at hk2 ⊢
    have hyl:(ys++[(x1,x2)]).length≤k+1:=by rw[←e2];omega
    have HK2:=qh hk2
    generalize ys++[(x1,x2)]=kB at*
    obtain⟨ub,ud,hu2,-⟩:=zf hk2
    have nO:=qh hu2
    rw[hu2]
    clear e1 e2 hk2 hu2
    (refine qq ?_)
    (refine qw ?_;intros;rename_i hM)
    replace hM:=hM.forget
    (try simp only[Exit.then])
    rw[←nO.out]
    (refine⟨?_,qio⟩;repeat(first|exact⟨⟨k+1,s2,kB,by omega,rfl,rfl,hyl,HY2,HK2,hM⟩,rfl⟩|apply Exists.intro))
  ·have k0:¬((k:Int)<(aa.length:Int)):=by omega
   obtain rfl:k=aa.length:=by omega
   have hy:=HY.out
   rw[lbSz] at hy
   rw[hu]
   by_cases h0:Pc.birth aa pid=0
   ·have nQ:=qh (AE.out.1 h0)
    have e:=AB (P:=⟨aa,last⟩) (HZ.out.1 h0)
    simp only at e
    rw[e] at hy
    have q1:((ys.length:Int)==(aa.length:Int))=true:=by rw[hy];exact beq_self_eq_true _
    have q2:ys.length=aa.length:=by rw[hy]
    clear hlt hk hu HY hy e h0
    (refine qw ?_;intros;rename_i hM)
    (refine qf ?_)
    rw[nQ.out]
    refine⟨rfl,HH.out.same (L:=oO s ys) ?_⟩
    simp only
    rw[HV.out]
    exact hM
   ·have nQ:=qh (AE.out.2 h0)
    have Gv:ys.length<aa.length:=by
     have h1:¬ ∀ x∈aa,x.1≠pid:=fun h=>h0 (HZ.out.2 h)
     rw[hy]
     refine Nat.lt_of_le_of_ne (lbYz _ _) fun e=>h1 fun x hx=> ?_
     have h2:=(List.length_filter_eq_length_iff.1 e) x hx
     simpa using h2
    have q1:((ys.length:Int)==(aa.length:Int))=false:=qne.2 (by omega)
    have q2:ys.length≠aa.length:=by omega
    have sA:=qh hy
    clear hlt hk hu HY hy h0
    (refine qw ?_;intros;rename_i hM)
    (refine qf ?_)
    rw[nQ.out,←sA.out]
    refine⟨rfl,St.me (X':=⟨xt,s⟩) ?_ rfl HK.out⟩
    unfold gH
    simp only
    rw[HU.out]
    exact hM
theorem tK{x:Int×Int}: ∀ {l:List (Int×Int)} {j:Nat},(∀ i y,i<j→l[i]? =some y→y.1<x.1)→j≤l.length→(∀ y,l[j]? =some y→x.1<y.1)→Pc.ins x l=l.take j++x::l.drop j
 |[],j,_,hj,_=>by
  obtain rfl:j=0:=by simpa using hj
  rfl
 |y::r,0,_,_,hv=>by
  have:=hv y rfl
  unfold Pc.ins
  rw[if_pos this]
  rfl
 |y::r,j+1,h,hj,hv=>by
  have h0:=h 0 y (by omega) rfl
  unfold Pc.ins
  rw[if_neg (by omega),tK (j:=j) (fun i v hi iQ=>h (i+1) v (by omega) iQ) (by simpa using hj) (fun v iQ=>hv v iQ)]
  rfl
theorem Gw(h:e_ X P w0)(hbig:P.last≤1000000)(pid:Int):Calls Tryz.prog 97 #[.pointer (some ⟨X.t,0,none⟩),.int .i64 pid] w0 fun e w'=>e= .returned (.tuple #[.int .i64 (Pc.spawn P pid).1.1,.int .i64 (Pc.spawn P pid).1.2])∧kj X P (Pc.spawn P pid).2 w0 w':=by
 have hM:=h.tJ
 have HN:=qh h.bV
 have HS:=qh h.ok
 have nP:=h.fit.few
 have hl0:=h.fit.last
 have fc:=qh (fun g cap (e:X.s=some (g,cap))=>h.apart e)
 have HZ:=qh (AA h.fit (p:=pid))
 have nR:=qh (fun (W:World) (L:List Ent) (hM:St w0 [X.t] W ((X.t,true,.cells [slV X.s P.aa.length,.int .i64 P.last] 156)::L))=>Yh (h.AD hM) pid)
 have oP:=qh (fun (W:World) (L:List Ent) (hM:St w0 [X.t] W ((X.t,true,.cells [slV X.s P.aa.length,.int .i64 P.last] 156)::L))=>h.same hM)
 obtain⟨va,vc,hv,hva⟩:=zf h.ok
 have AF:=tf h.ok hv
 have HC:=qh (te h.ok hv)
 rw[hv] at hM nR oP
 obtain⟨xt,xs⟩:=X
 obtain⟨aa,last⟩:=P
 have HV:=qh hv
 unfold Pc.spawn
 obtain⟨E,hE⟩: ∃ E,Pc.cZ ⟨aa,last⟩ pid=E:=⟨_,rfl⟩
 rw[hE]
 unfold Pc.cZ at hE
 unfold Pc.bd at nR
 simp only at*
 clear h hv
 by_cases h1:pid<1
 ·rw[if_pos (.inl h1)] at hE
  subst hE
  rw[if_neg (by decide)]
  have q1:decide (pid<1)=true:=decide_eq_true h1
  clear h1
  go_enter Tryz.func97,Tryz.ntmps97
  (refine qw ?_;intros;rename_i hM)
  (refine qf ?_)
  exact⟨rfl,oP.out _ _ hM⟩
 have q1:decide (pid<1)=false:=decide_eq_false h1
 by_cases h2:2147483648<pid
 ·rw[if_pos (.inr h2)] at hE
  subst hE
  rw[if_neg (by decide)]
  have q2:decide (2147483648<pid)=true:=decide_eq_true h2
  clear h1 h2
  go_enter Tryz.func97,Tryz.ntmps97
  (refine qw ?_;intros;rename_i hM)
  (refine qf ?_)
  exact⟨rfl,oP.out _ _ hM⟩
 have q2:decide (2147483648<pid)=false:=decide_eq_false h2
 rw[if_neg (fun h=>h.elim h1 h2)] at hE
 clear h1 h2
 by_cases h3:Pc.birth aa pid≠0
 ·rw[if_pos h3] at hE
  subst hE
  rw[if_neg (by decide)]
  rw[if_neg h3] at nR
  clear h3 HZ
  generalize Pc.birth aa pid=bv at*
  go_enter Tryz.func97,Tryz.ntmps97
  (refine qw ?_;intros;rename_i hM)
  (refine qCB (nR.out _ _ hM) hM ?_;clear hM;intro w' hM)
  (refine qw ?_;intros;rename_i hM)
  (refine qf ?_)
  exact⟨rfl,oP.out _ _ hM⟩
 rw[if_neg h3] at hE
 have hz:=HZ.out.1 (Decidable.not_not.1 h3)
 rw[if_pos (Decidable.not_not.1 h3)] at nR
 have HNE:=qh hz
 clear hz HZ h3
 generalize Pc.birth aa pid=bv at*
 by_cases h4:8≤aa.length
 ·rw[if_pos h4] at hE
  subst hE
  rw[if_neg (by decide)]
  have q4:decide ((8:Int)≤(aa.length:Int))=true:=decide_eq_true (by omega)
  clear h4
  go_enter Tryz.func97,Tryz.ntmps97
  (refine qw ?_;intros;rename_i hM)
  (refine qCB (nR.out _ _ hM) hM ?_;clear hM;intro w' hM)
  (refine qw ?_;intros;rename_i hM)
  (refine qf ?_)
  exact⟨rfl,oP.out _ _ hM⟩
 rw[if_neg h4] at hE
 subst hE
 rw[if_pos rfl]
 have HD:=qh (show ∀ ad,va=some ad→ ∃ g,ad=⟨g,0,none⟩∧ ∀ (W:World),Only [xt] w0 W→ ∀ j u,(aE aa)[j]? =some u→W.cell? ⟨g,j,none⟩=some u from fun ad e=>by
  rcases xs with _|⟨g1,cap1⟩
  ·have:=HC.out
   have hv:=HV.out
   unfold slV at hv
   injection hv with h3
   rw[←h3] at e
   cases e
  ·obtain⟨h1,-⟩:=hva g1 cap1 rfl
   rw[h1] at e
   cases e
   exact⟨g1,rfl,fun W ho j u hj=>yi ho (Res.cell (HN.out.has (g1,true,.pre (aE aa) 158 (cap1*2)) (.head _)) hj) (fc.out g1 cap1 rfl)⟩)
 have q4:¬(8:Int)≤(aa.length:Int):=by omega
 have ij:=AB (P:=⟨aa,last⟩) HNE.out
 simp only at ij
 have rQ:=qh ij
 have hwl:IntKind.i64.wrap (last+1)=last+1:=Za _ (by omega)
 clear h4 oP ij
 go_enter Tryz.func97,Tryz.ntmps97
 (refine qw ?_;intros;rename_i hM)
 (refine qCB (nR.out _ _ hM) hM ?_;clear hM;intro w' hM)
 (refine qw ?_;intros;rename_i hM)
 go_loopw [8] (fun i wr=> ∃ j:Nat,j≤aa.length∧i= .int .i64 j∧Hid (∀ (i:Nat) (y:Int×Int),i<j→aa[i]? =some y→y.1<pid)∧St w0 [xt] wr [(xt,true,Res.cells [.slice va aa.length vc,.int .i64 (last+1)] 156)]) (fun i _=>aa.length - (intOf i).toNat)
 case atStart=>exact⟨0,by omega,rfl,qh (fun i y hi=>by omega),hM⟩
 case round=>
  clear hM
  obtain⟨j,hj,rfl,HB,hM⟩:=hrel
  by_cases hlt:j<aa.length
  ·obtain⟨x,hx⟩:=zK hlt
   have j1:(j:Int)<(aa.length:Int):=by omega
   obtain⟨g1,cap1,rfl⟩: ∃ g1 cap1,xs=some (g1,cap1):=by
    rcases xs with _|⟨g1,cap1⟩
    ·exact absurd HS.out.2 (by omega)
    ·exact⟨g1,cap1,rfl⟩
   obtain⟨rfl,rfl⟩:=hva g1 cap1 rfl
   have oN:=fc.out g1 _ rfl
   have r1:=rP HN.out hx
   have c1:w0.cell? ⟨g1,j*2,none⟩=some (.int .i64 x.1):=r1 0 _ rfl
   by_cases jm:x.1<pid
   ·have HB2:=qh (show ∀ (i:Nat) (y:Int×Int),i<j+1→aa[i]? =some y→y.1<pid from fun i y hi hy=>by
     by_cases hij:i<j
     ·exact HB.out i y hij hy
     ·obtain rfl:i=j:=by omega
      rw[hx] at hy
      cases hy
      exact jm)
    have q5:decide (x.1<pid)=true:=decide_eq_true jm
    clear hx hlt r1
    (refine qw ?_;intros;rename_i hM)
    (try simp only[Exit.then])
    (refine⟨?_,qio⟩;repeat(first|exact⟨⟨j+1,by omega,rfl,HB2,hM⟩,rfl⟩|apply Exists.intro))
   ·have q5:decide (x.1<pid)=false:=decide_eq_false jm
    have hne:=HNE.out x (laQz hx)
    have HJ:=qh (tK (x:=(pid,last+1)) HB.out hj (fun u hu=>by rw[hx] at hu;cases hu;show pid<x.1;omega))
    clear hx hlt jm r1 hne
    (refine qw ?_;intros;rename_i hM)
    refine St.slcTo rfl rfl rfl rfl rfl Tryz.underlying154 (sz:=2) (by kernel_rfl) (by omega) ?_
    (refine qq ?_)
    change St w0 [xt] _ (_::slL none (aE []) 158 2) at hM
    refine St.appendAny (s:=none) (n:=0) (xs:=[]) (news:=aE (aa.take j)) rfl hM rfl rfl rfl rfl rfl (by kernel_rfl) qsf ⟨rfl,rfl⟩ (fun h=>by cases h) (by rw[Yv,lbTz];omega) (fun ad h j' u cK=>by
     obtain⟨g,rfl,hc⟩:=HD.out ad h
     rw[ZT,Nat.zero_add]
     refine hc _ hM.only j' u ?_
     rw[tI,lcKz] at cK
     split at cK
     ·exact cK
     ·cases cK) (xN _) (by rw[zj];omega) (by omega) (fun _=> .inr rfl) ?_
    clear hM;intro w s1 hM hk1 _ _
    simp only[laJz,Nat.zero_add] at hM hk1 ⊢
    have HK1:=qh hk1
    obtain⟨ub,ud,hu1,-⟩:=zf hk1
    clear hk1
    rw[hu1]
    (refine qq ?_)
    (refine qw ?_;intros;rename_i hM)
    rw[←hu1]
    refine St.append (s:=s1) (n:=j) (xs:=aE (aa.take j)) rfl hM rfl rfl rfl rfl rfl (by kernel_rfl) qsf HK1.out rfl (hM.news qm) rfl (by rw[zj];omega) (by omega) (fun h=>by cases h) ?_
    clear hM;intro w s2 hM hk2 _
    simp only[Res.known] at hM hk2
    have HK2:=qh hk2
    obtain⟨ue,uf,hu2,-⟩:=zf hk2
    clear hk2
    rw[hu2]
    (refine qq ?_)
    (refine qw ?_;intros;rename_i hM)
    rw[←hu2]
    refine St.appendAny (s:=s2) (n:=j+1) (xs:=aE (aa.take j)++[.int .i64 pid,.int .i64 (last+1)]) (news:=aE (aa.drop j)) rfl hM rfl rfl rfl rfl rfl (by kernel_rfl) qsf HK2.out (fun h=>by rw[if_neg (by omega)] at h;cases h) (by rw[Yv,lbXz]) (fun ad h j' u cK=>by
     rw[xU,lcFz] at cK
     have hb:=(laHz.1 cK).1
     rw[Yv] at hb
     rw[if_neg (by omega)] at h
     cases h
     obtain⟨g,hg,hc⟩:=HD.out _ rfl
     cases hg
     rw[ZT]
     exact hc _ hM.only _ u cK) (xN _) (by rw[zj];omega) (by omega) (fun h=>by cases h) ?_
    clear hM;intro w s3 hM aL _ _
    have e1:aE (aa.take j)++[.int .i64 pid,.int .i64 (last+1)]++aE (aa.drop j)=aE (Pc.put aa pid (last+1)):=by
     unfold Pc.put
     rw[rQ.out,HJ.out]
     unfold aE
     rw[laWz,laOz,lcAz]
    have e2:j+1+(aa.length - j)=(Pc.put aa pid (last+1)).length:=by
     unfold Pc.put
     rw[rQ.out,HJ.out,laNz,laPz,lbTz,lbXz]
     omega
    rw[e1] at hM aL
    rw[e2] at aL
    rw[e2]
    have HK3:=qh aL
    obtain⟨ug,uh,dv,-⟩:=zf aL
    have p6:=qh dv
    clear aL e1 e2 dv
    rw[p6.out]
    (refine qq ?_)
    (refine qw ?_;intros;rename_i hM)
    (refine qf ?_)
    refine⟨rfl,St.me (X':=⟨xt,s3⟩) ?_ rfl HK3.out⟩
    unfold gH
    simp only
    rw[p6.out]
    exact(hM.forget).perm (by first|exact List.Perm.refl _|exact lcMz) 
  ·have j0:¬((j:Int)<(aa.length:Int)):=by omega
   have HJ:=qh (tK (x:=(pid,last+1)) HB.out hj (fun u hu=>by rw[lcTz (by omega)] at hu;cases hu))
   clear hlt
   (refine qw ?_;intros;rename_i hM)
   refine St.slcTo rfl rfl rfl rfl rfl Tryz.underlying154 (sz:=2) (by kernel_rfl) (by omega) ?_
   (refine qq ?_)
   change St w0 [xt] _ (_::slL none (aE []) 158 2) at hM
   refine St.appendAny (s:=none) (n:=0) (xs:=[]) (news:=aE (aa.take j)) rfl hM rfl rfl rfl rfl rfl (by kernel_rfl) qsf ⟨rfl,rfl⟩ (fun h=>by have:=HC.out h;omega) (by rw[Yv,lbTz];omega) (fun ad h j' u cK=>by
    obtain⟨g,rfl,hc⟩:=HD.out ad h
    rw[ZT,Nat.zero_add]
    refine hc _ hM.only j' u ?_
    rw[tI,lcKz] at cK
    split at cK
    ·exact cK
    ·cases cK) (xN _) (by rw[zj];omega) (by omega) (fun _=> .inr rfl) ?_
   clear hM;intro w s1 hM hk1 _ _
   simp only[laJz,Nat.zero_add] at hM hk1 ⊢
   have HK1:=qh hk1
   obtain⟨ub,ud,hu1,-⟩:=zf hk1
   clear hk1
   rw[hu1]
   (refine qq ?_)
   (refine qw ?_;intros;rename_i hM)
   rw[←hu1]
   refine St.append (s:=s1) (n:=j) (xs:=aE (aa.take j)) rfl hM rfl rfl rfl rfl rfl (by kernel_rfl) qsf HK1.out rfl (hM.news qm) rfl (by rw[zj];omega) (by omega) (fun h=>by cases h) ?_
   clear hM;intro w s2 hM hk2 _
   simp only[Res.known] at hM hk2
   have HK2:=qh hk2
   obtain⟨ue,uf,hu2,-⟩:=zf hk2
   clear hk2
   rw[hu2]
   (refine qq ?_)
   (refine qw ?_;intros;rename_i hM)
   rw[←hu2]
   refine St.appendAny (s:=s2) (n:=j+1) (xs:=aE (aa.take j)++[.int .i64 pid,.int .i64 (last+1)]) (news:=aE (aa.drop j)) rfl hM rfl rfl rfl rfl rfl (by kernel_rfl) qsf HK2.out (fun h=>by
    have h1:=HC.out (by
     split at h
     ·exact h
     ·exact Option.map_eq_none_iff.1 h)
    omega) (by rw[Yv,lbXz]) (fun ad h j' u cK=>by
    rw[xU,lcFz] at cK
    have hb:=(laHz.1 cK).1
    rw[Yv] at hb
    rw[if_neg (by omega)] at h
    obtain⟨mR,h1,rfl⟩:=Option.map_eq_some_iff.1 h
    obtain⟨g,rfl,hc⟩:=HD.out mR h1
    rw[ZT,ZT,Nat.zero_add]
    exact hc _ hM.only _ u cK) (xN _) (by rw[zj];omega) (by omega) (fun h=>by cases h) ?_
   clear hM;intro w s3 hM aL _ _
   have e1:aE (aa.take j)++[.int .i64 pid,.int .i64 (last+1)]++aE (aa.drop j)=aE (Pc.put aa pid (last+1)):=by
    unfold Pc.put
    rw[rQ.out,HJ.out]
    unfold aE
    rw[laWz,laOz,lcAz]
   have e2:j+1+(aa.length - j)=(Pc.put aa pid (last+1)).length:=by
    unfold Pc.put
    rw[rQ.out,HJ.out,laNz,laPz,lbTz,lbXz]
    omega
   rw[e1] at hM aL
   rw[e2] at aL
   rw[e2]
   have HK3:=qh aL
   obtain⟨ug,uh,dv,-⟩:=zf aL
   have p6:=qh dv
   clear aL e1 e2 dv
   rw[p6.out]
   (refine qq ?_)
   (refine qw ?_;intros;rename_i hM)
   (refine qf ?_)
   refine⟨rfl,St.me (X':=⟨xt,s3⟩) ?_ rfl HK3.out⟩
   unfold gH
   simp only
   rw[p6.out]
   exact(hM.forget).perm (by first|exact List.Perm.refl _|exact lcMz) 
end
end
section
structure aB where
 d:ar
 p:aT
namespace Wd
def new(q:Int):aB:=⟨Ol.new q,⟨[],0⟩⟩
def spawn(W:aB)(pid:Int):aB:=⟨W.d,(Pc.spawn W.p pid).2⟩
def kill(W:aB)(pid:Int):Int×aB:=if Pc.birth W.p.aa pid=0 then(3,W) else(0,⟨Ol.exit W.d (Pc.birth W.p.aa pid),(Pc.kill W.p pid).2⟩)
def fS(W:aB)(k:Int):aB:=⟨Ol.cut W.d k,Pc.bU W.p⟩
def lv(b:Bool):ResD:=if b then⟨0,1,⟨#[]⟩,[]⟩ else Fs.errR 0
def do_(W:aB)(pid:Int)(op:OpD):ResD×aB:=
 if Pc.birth W.p.aa pid=0 then(Fs.errR 3,W)
 else if op.kind=15 then(lv (Pc.alive W.p op.pid op.birth),W)
 else((Ol.do_ W.d (Pc.birth W.p.aa pid) op).1,⟨(Ol.do_ W.d (Pc.birth W.p.aa pid) op).2,W.p⟩)
structure Inv (N:Nat) (W:aB):Prop where
 aG:Ol.Inv N W.d
 fit:Pc.Fit W.p
 gd:Ol.Good W.d
 own: ∀ o∈Fs.af W.d.now,o≤W.p.last
 last:W.p.last≤N
section
variable {N M:Nat}{W:aB}{pid:Int}
theorem Inv.more(h:Inv N W)(hM:N≤M):Inv M W:=⟨h.aG.more hM,h.fit,h.gd,h.own,by have:=h.last;omega⟩
theorem inv_new{q:Int}(h0:64≤q)(h1:q≤1099511627776):Inv 1 (new q):=⟨Ol.inv_new h0 h1,Pc.jS,Ol.k_ q,nofun,by show(0:Int)≤1;decide⟩
theorem eD(h:Inv N W)(pid:Int):Inv (N+3) (spawn W pid):=by
 have h1:=Pc.jw W.p pid
 have h2:=h.last
 exact⟨h.aG.more (by omega),Pc.gF h.fit pid,h.gd,fun o ho=>by have:=h.own o ho;show o≤(Pc.spawn W.p pid).2.last;omega,by show(Pc.spawn W.p pid).2.last≤_;omega⟩
theorem br(h:Inv N W)(hN:N≤999999980)(pid:Int):Fits (Pc.birth W.p.aa pid):=by
 have h1:=Pc.iJ h.fit pid
 have h2:=h.last
 exact Zy (by omega) (by omega)
theorem fT(h:Inv N W)(hN:N≤999999980)(pid:Int):Inv (N+3) (kill W pid).2:=by
 unfold kill
 split
 ·exact h.more (by omega)
 ·refine⟨Ol.bP h.aG (br h hN pid),Pc.iK h.fit pid,Ol.gx h.gd,fun o ho=> ?_, ?_⟩
  ·show o≤(Pc.kill W.p pid).2.last
   rw[Pc.gG]
   exact h.own o (Ol.dP ho)
  ·show(Pc.kill W.p pid).2.last≤_
   rw[Pc.gG]
   have:=h.last
   omega
theorem eE(h:Inv N W)(hN:N≤999999990)(k:Int):Inv N (fS W k):=by
 refine⟨Ol.lY h.aG hN k,Pc.eW h.fit,Ol.lb h.aG h.gd hN k,fun o ho=> ?_,h.last⟩
 have:o∈Fs.af (Ol.aW W.d k):=ho
 rw[Ol.jj h.aG h.gd hN k] at this
 cases this
theorem inv_do(h:Inv N W)(hN:N≤999999980)(pid:Int){op:OpD}(hp:op.Ok):Inv (N+3) (do_ W pid op).2:=by
 unfold do_
 split
 ·exact h.more (by omega)
 split
 ·exact h.more (by omega)
 ·refine⟨Ol.inv_do h.aG hN (br h hN pid) hp,h.fit,Ol.lZ h.aG h.gd,fun o ho=> ?_,by have:=h.last;show W.p.last≤_;omega⟩
  rcases Ol.kb ho with h1|rfl
  ·exact h.own o h1
  ·exact(Pc.iJ h.fit pid).2
end
end Wd
end
section
open Go.RowKit Go.Maps
structure km where
 w:Nat
 d:iG
 p:mJ
section
variable {P:Program}{K:Act→World→Prop}{a:Act}{w w0:World}{ops:Array Oper}{l:List (Oper×Nat)}{o:Oper}{F:List Nat}{L L':List Ent}{ty:TypeId}{b q:Nat}{x y:Operand}{S:World→Prop}
theorem St.cy(hx:o.op= .store ty x y)(hM:St w0 F w L)(hw:Region.wanted o (yielded ops a.tmps)=true){n:Nat}(Jf:Zu ZA ty=some n)(hev:a.eval x= .pointer (some ⟨b,q,none⟩)){vs:Array Value}(hy:a.eval y= .agg vs){r:Res}(hu:Upd L (b,true,r) (b,true,r.put (over r.known q vs.toList)) L')(hq:q+vs.size≤r.known.length)(h0:0<vs.size)(h1:rowB P ty vs.size=true)(hv0:vs.toList.all (·.oneCell')=true)
  (h: ∀ w',Only [b] w w'→St w0 F w' L'→zg P ops K S l (a.put o.dst undef) w'):zg P ops K S ((o,3)::l) a w:=by
 have hr:r.holds w.heap[b]? :=hM.holds _ hu.mem
 obtain⟨rest,t,hb,hput⟩:=Res.whole (q:=q) hr (by omega)
 have hv:vs.all (·.oneCell')=true:=by simpa using hv0
 obtain⟨d,-,-,e3⟩:=YL h1
 have hrun:(execOp a.eval o).run P w= .ok .skip (w.setCells b q vs.toList):=by
  unfold execOp
  simp only[hx,hev,hy,Instr.storeAt,Instr.sureAddr,Sem.run_bind,Sem.run_pure,Result.andThen_ok,run_storeVar_mid w b q ty vs (hb.there q vs.size (by rw[laNz];omega)) e3 hv]
 have hres:=hput (over r.known q vs.toList) (Yo _ _ _) (w.setCells b q vs.toList) (by have:=hb.setCells vs.toList q;rwa [Yz _ _ _ _ (by simpa using hq)] at this)
 exact zM rfl hw hrun (.inr ⟨rfl,rfl⟩) (fun h2=>absurd h2 (by decide)) (h _ (zY b vs.toList q w) (hM.turn hu (zY b vs.toList q w) hres))
end
section
variable {w w' w0 w1 w2:World}{X X':km}{W W':aB}{V V':fh}{N M:Nat}{F F':List Nat}{L:List Ent}{Y Y':iG}{D D':ar}{P P':aT}{p p':mJ}
def lM(X:km)(W:aB)(V:fh):List Nat:=cS X.d W.d V.hs++ze (gH X.p W.p)
def fi(X:km)(W:aB)(V:fh):List Nat:=X.w::(f_ X.d W.d V++ze (gH X.p W.p))
structure bE (N:Nat) (X:km) (W:aB) (V:fh) (w:World):Prop where
 row:w.rangeAt X.w 0 [.pointer (some ⟨X.d.d,0,none⟩),.pointer (some ⟨X.p.t,0,none⟩)]
 aG:cz N X.d W.d V w
 bV:e_ X.p W.p w
 inv:Wd.Inv N W
 apart: ∀ k∈ze (gH X.p W.p),k∉f_ X.d W.d V
 one:X.w∉f_ X.d W.d V∧X.w∉ze (gH X.p W.p)
structure bC (N:Nat) (X:km) (W:aB) (V:fh) (X':km) (W':aB) (V':fh) (w w':World):Prop where
 ww:X'.w=X.w
 is:bE N X' W' V' w'
 only:Only (lM X W V) w w'
 own: ∀ k∈lM X' W' V',k∈lM X W V∨w.heap.size≤k
 grow:Grow w (fi X W V) (fi X' W' V')
theorem AG: ∀ k∈cS Y D V.hs,k∈f_ Y D V:=fun k hk=>laEz _ (yJ k hk)
theorem rR: ∀ k∈lM X W V,k∈fi X W V:=fun k hk=>by
 unfold lM at hk
 unfold fi
 rcases laAz.1 hk with h|h
 ·exact .tail _ (laEz _ (AG k h))
 ·exact .tail _ (laCz _ h)
theorem e_.only (h:e_ p P w)(ho:Only F w w')(hF: ∀ k∈ze (gH p P),k∉F):e_ p P w':=⟨h.at_.only ho hF,h.ok,h.fit⟩
theorem bE.rS(h:bE N X W V w):X.w<w.heap.size:=by
 have:=World.block_lt_of_cell? w ⟨X.w,0,none⟩ (h.row 0 _ rfl)
 exact this
theorem bE.lt(h:bE N X W V w): ∀ k∈fi X W V,k<w.heap.size:=fun k hk=>by
 unfold fi at hk
 rcases laBz.1 hk with rfl|hk
 ·exact h.rS
 ·rcases laAz.1 hk with hk|hk
  ·exact h.aG.lt k hk
  ·exact h.bV.at_.lt k hk
theorem bE.only (h:bE N X W V w)(ho:Only F w w')(hF: ∀ k∈fi X W V,k∉F):bE N X W V w':=
 ⟨yR ho h.row (hF _ (.head _)),h.aG.only ho fun k hk=>hF k (.tail _ (laEz _ hk)),h.bV.only ho fun k hk=>hF k (.tail _ (laCz _ hk)),h.inv,h.apart,h.one⟩
theorem bE.below(h:bE N X W V w)(hb:Below w.heap.size w w'):bE N X W V w':=h.only (F:=[]) (Only.of_below hb) fun _ _=>nofun
theorem bE.more(h:bE N X W V w)(hM:N≤M):bE M X W V w:=⟨h.row,h.aG.more hM,h.bV,h.inv.more hM,h.apart,h.one⟩
theorem bC.refl(h:bE N X W V w):bC N X W V X W V w w:=⟨rfl,h,Only.refl _ _,fun _ h=> .inl h,fun _ h=> .inl h⟩
theorem bC.more(h:bC N X W V X' W' V' w w')(hM:N≤M):bC M X W V X' W' V' w w':=⟨h.ww,h.is.more hM,h.only,h.own,h.grow⟩
theorem bC.below(h:bC N X W V X' W' V' w w1)(hb:Below w1.heap.size w1 w2):bC N X W V X' W' V' w w2:=⟨h.ww,h.is.below hb,h.only.below (hb.mono h.only.size),h.own,h.grow⟩
theorem bC.trans{X2:km}{W2:aB}{V2:fh}(h:bC M X W V X' W' V' w w1)(k:bC N X' W' V' X2 W2 V2 w1 w2):bC N X W V X2 W2 V2 w w2:=by
 have hs:=h.only.size
 refine⟨k.ww.trans h.ww,k.is,h.only.then k.only h.own,fun x hx=> ?_,h.grow.trans k.grow hs⟩
 rcases k.own x hx with h1|h1
 ·exact h.own x h1
 ·exact .inr (Nat.le_trans hs h1)
theorem bC.wrap{U:World}(h:bE M X W V w0)(ho:Only [] w0 U)(hto:bC N X W V X' W' V' U w1)(hS:Only F' w1 w')(hF: ∀ k∈F',w0.heap.size≤k∧k<U.heap.size):bC N X W V X' W' V' w0 w':=by
 have hsz:=ho.size
 refine⟨hto.ww,hto.is.only hS (fun k hk hm=> ?_),((ho.mono (fun _ h=>by cases h)).trans hto.only).then hS (fun k hk=> .inr (hF k hk).1),(fun k hk=>(hto.own k hk).imp id (Nat.le_trans hsz)),(fun k hk=>(hto.grow k hk).imp id (Nat.le_trans hsz))⟩
 have h1:=hF k hm
 rcases hto.grow k hk with h3|h3
 ·have:=h.lt k h3
  omega
 ·omega
theorem bE.jx(h:bE N X W V w)(hto:dH M X.d W.d V Y' D' V' w w')(I:Wd.Inv M ⟨D',W.p⟩):bC M X W V ⟨X.w,Y',X.p⟩ ⟨D',W.p⟩ V' w w':=by
 have hg: ∀ k∈cS X.d W.d V.hs,k∈f_ X.d W.d V:=fun k hk=>AG k hk
 have hp: ∀ k∈ze (gH X.p W.p),k∉cS X.d W.d V.hs:=fun k hk h1=>h.apart k hk (hg k h1)
 refine⟨rfl,⟨?_,hto.is,h.bV.only hto.only hp,I,fun k hk hm=> ?_,fun hm=> ?_,h.one.2⟩,hto.only.mono (fun k hk=>laEz _ hk),fun k hk=> ?_,fun k hk=> ?_⟩
 ·simp only
  rw[hto.d]
  exact yR hto.only h.row fun hm=>h.one.1 (hg _ hm)
 ·rcases hto.grow k hm with h1|h1
  ·exact h.apart k hk h1
  ·have:=h.bV.at_.lt k hk
   omega
 ·rcases hto.grow _ hm with h1|h1
  ·exact h.one.1 h1
  ·have:=h.rS
   simp only at h1
   omega
 ·unfold lM at hk ⊢
  rcases laAz.1 hk with hk|hk
  ·exact(hto.own k hk).imp (laEz _) id
  ·exact .inl (laCz _ hk)
 ·unfold fi at hk ⊢
  rcases laBz.1 hk with rfl|hk
  ·exact .inl (.head _)
  ·rcases laAz.1 hk with hk|hk
   ·exact(hto.grow k hk).imp (fun h=> .tail _ (laEz _ h)) id
   ·exact .inl (.tail _ (laCz _ hk))
theorem bE.lx(h:bE N X W V w)(hto:kj X.p W.p P' w w')(hf:Pc.Fit P')(hN:N≤M)(I:Wd.Inv M ⟨W.d,P'⟩): ∃ p',bC M X W V ⟨X.w,X.d,p'⟩ ⟨W.d,P'⟩ V w w':=by
 obtain⟨p',ht,hk,hS⟩:=hto
 have jT: ∀ k∈ze (gH p' P'),k∈ze (gH X.p W.p)∨w.heap.size≤k:=fun k hk=>by
  obtain⟨y,hy,rfl⟩:=laKz.1 hk
  exact hS.own y hy (Gp _ _ y hy)
 refine⟨p',rfl,⟨?_,(h.aG.only hS.only fun k hk hm=>h.apart k hm hk).more hN,⟨hS.whole,hk,hf⟩,I,fun k hk hm=> ?_,h.one.1,fun hm=> ?_⟩,hS.only.mono (fun k hk=>laCz _ hk),fun k hk=> ?_,fun k hk=> ?_⟩
 ·simp only
  rw[ht]
  exact yR hS.only h.row h.one.2
 ·rcases jT k hk with h1|h1
  ·exact h.apart k h1 hm
  ·have:=h.aG.lt k hm
   omega
 ·rcases jT _ hm with h1|h1
  ·exact h.one.2 h1
  ·have:=h.rS
   simp only at h1
   omega
 ·unfold lM at hk ⊢
  rcases laAz.1 hk with hk|hk
  ·exact .inl (laEz _ hk)
  ·exact(jT k hk).imp (laCz _) id
 ·unfold fi at hk ⊢
  rcases laBz.1 hk with rfl|hk
  ·exact .inl (.head _)
  ·rcases laAz.1 hk with hk|hk
   ·exact .inl (.tail _ (laEz _ hk))
   ·exact(jT k hk).imp (fun h=> .tail _ (laCz _ h)) id
end
end
section
open Go.RowKit Go.Maps
theorem Gx(p dir:ByteArray)(w:World)(hp:p.size≤1000000)(hd:dir.size≤1000000):An 78 #[.string p,.string dir] w (.bool (Pt.under p dir)):=by
 have hM:=St.start w []
 have C1:=qh (fun (W:World)=>Yl p W hp)
 have C2:=qh (fun (W:World)=>Yl dir W hd)
 have l1:=Pt.parts_len p hp
 have l2:=Pt.parts_len dir hd
 unfold Pt.under
 generalize Pt.parts p=xs at*
 generalize Pt.parts dir=ys at*
 generalize hU:(decide (ys.length<xs.length)&&decide (xs.take ys.length=ys))=U
 have HU:=qh hU
 clear hU
 go_enter Tryz.func78,Tryz.ntmps78
 (refine qw ?_;intros;rename_i hM)
 (refine qKx ?_;intro R hR)
 refine(C1.out _).mono ?_
 rintro e w' ⟨s1,rfl,hk1,hN⟩
 replace hM:=hM.madeM hN (zL _ _)
 refine hR.out _ _ (fun h=>h.below hN.to_below) ?_;clear hR R hN
 obtain⟨a1,c1,gS,l8⟩:=zf hk1
 rw[gS]
 (refine qq ?_)
 (refine qw ?_;intros;rename_i hM)
 (refine qKx ?_;intro R hR)
 refine(C2.out _).mono ?_
 rintro e w' ⟨s2,rfl,hk2,hN⟩
 replace hM:=hM.madeM hN (zL _ _)
 refine hR.out _ _ (fun h=>h.below hN.to_below) ?_;clear hR R hN
 obtain⟨a2,c2,eh,l9⟩:=zf hk2
 rw[eh]
 (refine qq ?_)
 by_cases h1:xs.length≤ys.length
 ·have k1:(xs.length:Int)≤(ys.length:Int):=by omega
  have e:false=U:=by rw[←HU.out,decide_eq_false (show ¬ys.length<xs.length by omega),Bool.false_and]
  subst e
  exact qwf
 ·have k1:¬((xs.length:Int)≤(ys.length:Int)):=by omega
  rcases s1 with _|⟨g1,cap1⟩
  ·exact absurd hk1.2 (by omega)
  obtain⟨rfl,rfl⟩:=l8 g1 cap1 rfl
  have e:decide (xs.take ys.length=ys)=U:=by rw[←HU.out,decide_eq_true (show ys.length<xs.length by omega),Bool.true_and]
  have HE:=qh e
  clear e HU gS
  have HK2:=qh hk2
  have hn1:xs.length≤1000001:=l1
  (refine qw ?_;intros;rename_i hM)
  go_loopw [7] (fun i wr=> ∃ k:Nat,k≤ys.length∧i= .int .i64 k∧Hid (xs.take k=ys.take k)∧St w [] wr (txL s2 ys++txL (some (g1,c1)) xs)) (fun i _=>ys.length - (intOf i).toNat)
  case atStart=>exact⟨0,by omega,rfl,qh rfl,hM⟩
  case round=>
   clear hM
   obtain⟨k,hk,rfl,HT,hM⟩:=hrel
   by_cases hlt:k<ys.length
   ·rcases s2 with _|⟨g2,cap2⟩
    ·exact absurd HK2.out.2 (by omega)
    obtain⟨rfl,rfl⟩:=l9 g2 cap2 rfl
    have Gy:k<xs.length:=by omega
    obtain⟨y,hy⟩:=zK hlt
    obtain⟨x,hx⟩:=zK Gy
    have hy':(ys.map Value.string)[k]? =some (.string y):=by rw[lbCz,hy];rfl
    have hx':(xs.map Value.string)[k]? =some (.string x):=by rw[lbCz,hx];rfl
    have k2:(k:Int)<(ys.length:Int):=by omega
    have k3:(k:Int)<(xs.length:Int):=by omega
    simp only[slL,laIz,laJz] at hM
    by_cases mA:x=y
    ·have q1:(x.toList==y.toList)=true:=by rw[mA];simp
     have Gz:=qh (show xs.take (k+1)=ys.take (k+1) from by rw[lbJz,lbJz,HT.out,hx,hy,mA])
     clear hy hx mA HT
     (refine qw ?_;intros;rename_i hM)
     (try simp only[Exit.then])
     (refine⟨?_,qio⟩;repeat(first|exact⟨⟨k+1,by omega,rfl,Gz,hM⟩,rfl⟩|apply Exists.intro))
    ·have q1:(x.toList==y.toList)=false:=by rw[ByteArray.toList_eq,ByteArray.toList_eq];exact qne.2 fun h=>mA (Pt.ba_ext h)
     have e:false=U:=by
      rw[←HE.out]
      refine(decide_eq_false fun h=>mA ?_).symm
      have h2:(xs.take ys.length)[k]? =ys[k]? :=by rw[h]
      rw[lcKz,if_pos hlt,hx,hy] at h2
      exact Option.some.inj h2
     subst e
     clear hy hx mA HT
     exact qwf
   ·have k2:¬((k:Int)<(ys.length:Int)):=by omega
    obtain rfl:k=ys.length:=by omega
    have e:true=U:=by
     rw[←HE.out,HT.out,lbSz]
     exact(decide_eq_true rfl).symm
    subst e
    clear hlt hk
    exact qwf
end
section
open Go.RowKit Go.Maps
namespace Fs
theorem AH{N:Nat}{t:TabD}(I:In.Inv N t): ∀ (k:Nat) (id:Int) (dir:ByteArray),∀ f∈under t k id dir,f.path.size≤dir.size+33*k
 |0,_,_,f,h=>by cases h
 |k+1,id,dir,f,h=>by
  unfold under at h
  obtain⟨p,hp,hf⟩:=laZz.1 h
  have hs:=I.short _ (In.find_some (In.an hp)).1 p hp
  have hj:=tp dir p.1
  rcases laBz.1 hf with rfl|hf
  ·show(Pt.join dir p.1).size≤_
   omega
  ·have:=AH I k p.2 (Pt.join dir p.1) f hf
   omega
theorem jy{N:Nat}{d:FsD}(I:Inv N d)(hN:N≤30000): ∀ f∈files d,f.path.size≤1000000:=fun f hf=>by
 have:=AH I.tbl _ _ _ f hf
 have h2:=I.tbl.last
 have e:(⟨#[]⟩:ByteArray).size=0:=rfl
 omega
end Fs
section
variable {N:Nat}{X:cI}{x y:FsX}{β γ:Int→Nat×Nat}{D:ar}{d:FsD}{w w' w0:World}{F:List Nat}{L L' M M':List Ent}{b f g n:Nat}{s:Option (Nat×Nat)}
theorem AI{k:Int}(hk:Fits k){p:ByteArray}(h:p.size≤1000000):(gL k p).Ok:=⟨hk,show Fits 0 by decide,show Fits 0 by decide,show Fits 0 by decide,h,show(⟨#[]⟩:ByteArray).size≤1000000 by decide,show(⟨#[]⟩:ByteArray).size≤maxLen by decide⟩
theorem GA{xs:List ah}{k:Nat}{f:ah}(h:xs[k]? =some f)(d:FsD):(xs.take (k+1)).foldl Ol.aw d=Ol.aw ((xs.take k).foldl Ol.aw d) f:=by
 rw[lbJz,h,Option.toList_some,ldIz]
 rfl
theorem GB(h:FsAt N x β d w0)(nS:Ol.aH N d)(hN:N≤30000):Calls Tryz.prog 79 #[.pointer (some ⟨x.f,0,none⟩),.string ⟨#[114,117,110]⟩] w0 fun e w'=>e= .returned (.tuple #[])∧ ∃ β',St w0 (ze (fsL x β d)) w' (fsL x β' (Ol.ay d)):=by
 have hM:=h.at_.st
 obtain⟨F,hF⟩: ∃ F,ze (fsL x β d)=F:=⟨_,rfl⟩
 rw[hF] at hM ⊢
 have F0:0∉F:=hF▸h.zero
 have HI:=qh h.inv
 have HX:=qh h.mx
 have dt:=qh nS
 have jo:=nS.up
 have ln:=qh (Fs.jy h.inv hN)
 have HLN:=qh (Fs.ck h.inv jo)
 have CF:=qh (y2 h jo (by omega))
 have AJ:Ol.ay d=(Fs.files d).reverse.foldl Ol.aw d:=rfl
 rw[AJ]
 clear hF h jo AJ nS
 generalize Fs.files d=fs at*
 go_enter Tryz.func79,Tryz.ntmps79
 (refine qw ?_;intros;rename_i hM)
 (refine qKx ?_;intro R hR)
 refine CF.out.mono ?_
 rintro e w' ⟨s,rfl,hk,hN2⟩
 replace hM:=hM.madeM hN2 (zo _ _ _ _)
 refine qho ?_;clear hR R hN2 CF
 have HK:=qh hk
 obtain⟨va,vc,hv,hva⟩:=zf hk
 (refine qq ?_)
 (refine qw ?_;intros;rename_i hM)
 (refine qKx ?_;intro R hR)
 refine(Fz hk (by have:=HLN.out;omega) (hM.part .here)).mono ?_
 rintro e w' ⟨rfl,hN2⟩
 replace hM:=hM.backM .here (zo _ _ _ _) hN2 (zo _ _ _ _)
 refine qho ?_;clear hR R hN2
 have hk2:=Fy hk (ys:=fs.reverse) (by simp)
 have e1:fs.length=fs.reverse.length:=by simp
 have tL:=qh (fun f (hf:f∈fs.reverse)=>ln.out f (List.mem_reverse.1 hf))
 have tM:=qh (e1▸HLN.out)
 rw[hv]
 rw[e1] at hv ⊢
 clear ln HLN HK hk e1
 generalize fs.reverse=rs at*
 have HK:=qh hk2
 clear hk2
 (refine qq ?_)
 (refine qw ?_;intros;rename_i hM)
 have Jg:rs.length≤30000:=by have:=tM.out;omega
 go_loopw [14] (fun i wr=> ∃ (k:Nat) (β':Int→Nat×Nat) (dk:FsD),k≤rs.length∧i= .int .i64 k∧(rs.take k).foldl Ol.aw d=dk∧Ol.aH N dk∧St w0 F wr (Yy s rs++fsL x β' dk)) (fun i _=>rs.length - (intOf i).toNat)
 case atStart=>exact⟨0,β,d,by omega,rfl,by simp,dt.out,hM⟩
 case round=>
  clear hM
  obtain⟨k,β,dk,hk,rfl,p7,lf,hM⟩:=hrel
  have mg:=qh p7
  have jU:=qh lf
  clear p7 lf
  by_cases hlt:k<rs.length
  ·obtain⟨f,hf⟩:=zK hlt
   cases s with
   |none=>exact absurd HK.out.2 (by omega)
   |some gc=>
   obtain⟨g,cap⟩:=gc
   obtain⟨rfl,rfl⟩:=hva g cap rfl
   have hsz:=tL.out f (laQz hf)
   have hrow:=pN hf
   have hlen:k*3+3≤(rs.flatMap ah.cells).length:=by rw[yr];omega
   have eU:=qh ((GA hf d).trans (congrArg (fun z=>Ol.aw z f) mg.out))
   have ee:=qh (Ol.cW jU.out f)
   have k1:(k:Int)<(rs.length:Int):=by omega
   have CU:=qh (fun (W:World) (hm:Mx W)=>Fq f.path Pt.run W hsz (by decide) hm)
   have AK:=qh (fun (W:World) (β':Int→Nat×Nat) (hA:FsAt N x β' dk W)=>zcJ hA (by omega) (o:=0) (by decide) (gL 2 f.path) (AI (by decide) hsz))
   have p8:=qh (fun (W:World) (β':Int→Nat×Nat) (hA:FsAt N x β' dk W)=>zcJ hA (by omega) (o:=0) (by decide) (gL 11 f.path) (AI (by decide) hsz))
   have kA:Ol.aw dk f=if Pt.under f.path Pt.run then(Fs.do_ dk 0 (gL (if f.dir then 2 else 11) f.path)).2 else dk:=rfl
   rw[kA] at eU ee
   clear hf hlt hsz kA
   obtain⟨fp,fd,ft⟩:=f
   simp only at hrow eU ee CU AK p8
   simp only[slL,laIz,laJz] at hM
   (refine qw ?_;intros;rename_i hM)
   refine St.loadRow rfl hM rfl rfl rfl rfl qm (by exact hlen) (by kernel_rfl) ?_
   simp only[Res.known]
   rw[hrow]
   (refine qq ?_)
   generalize Pt.under fp Pt.run=un at*
   cases fd with
   |false=>
    cases un with
    |false=>
     have hst:=eU.out
     have hf1:=ee.out
     simp only[Bool.false_eq_true,if_false,if_true] at hst hf1
     have nT:=qh hst
     have HF2:=qh hf1
     clear hst hf1 eU ee
     (refine qw ?_;intros;rename_i hM)
     (refine qKx ?_;intro R hR)
     refine(CU.out _ (hM.mx HX.out F0)).mono ?_
     rintro e w' ⟨rfl,hb⟩
     replace hM:=hM.below hb
     refine qho ?_;clear hR R hb
     (refine qq ?_)
     (refine qw ?_;intros;rename_i hM)
     replace hM:=hM.forget.forget
     simp only[Exit.then]
     (refine⟨?_,qio⟩;repeat(first|exact⟨⟨k+1,β,dk,by omega,rfl,nT.out,HF2.out,hM⟩,rfl⟩|apply Exists.intro))
    |true=>
     have hst:=eU.out
     have hf1:=ee.out
     simp only[Bool.false_eq_true,if_false,if_true] at hst hf1
     have nT:=qh hst
     have HF2:=qh hf1
     clear hst hf1 eU ee
     (refine qw ?_;intros;rename_i hM)
     (refine qKx ?_;intro R hR)
     refine(CU.out _ (hM.mx HX.out F0)).mono ?_
     rintro e w' ⟨rfl,hb⟩
     replace hM:=hM.below hb
     refine qho ?_;clear hR R hb
     (refine qq ?_)
     (refine qw ?_;intros;rename_i hM)
     (refine qKx ?_;intro R hR)
     refine(p8.out _ β (hM.fs (x:=x) (β:=β) (d:=dk) qpt jU.out.inv HX.out F0)).mono ?_
     rintro e w' ⟨s2,β2,rfl,-,hN2⟩
     replace hM:=hM.backM (M:=fsL x β dk) (.skip (.skip (.skip .all))) (zr _ _ _) hN2 (fun y hy=>(laAz.1 hy).elim (zL _ _ y) (zr _ _ _ y))
     refine qho ?_;clear hR R hN2
     (refine qq ?_)
     (refine qw ?_;intros;rename_i hM)
     replace hM:=hM.forget.forget.subM ((laFz _ _).cons_cons _)
     simp only[Exit.then]
     (refine⟨?_,qio⟩;repeat(first|exact⟨⟨k+1,β2,_,by omega,rfl,nT.out,HF2.out,hM⟩,rfl⟩|apply Exists.intro))
   |true=>
    cases un with
    |false=>
     have hst:=eU.out
     have hf1:=ee.out
     simp only[Bool.false_eq_true,if_false,if_true] at hst hf1
     have nT:=qh hst
     have HF2:=qh hf1
     clear hst hf1 eU ee
     (refine qw ?_;intros;rename_i hM)
     (refine qKx ?_;intro R hR)
     refine(CU.out _ (hM.mx HX.out F0)).mono ?_
     rintro e w' ⟨rfl,hb⟩
     replace hM:=hM.below hb
     refine qho ?_;clear hR R hb
     (refine qq ?_)
     (refine qw ?_;intros;rename_i hM)
     replace hM:=hM.forget.forget
     simp only[Exit.then]
     (refine⟨?_,qio⟩;repeat(first|exact⟨⟨k+1,β,dk,by omega,rfl,nT.out,HF2.out,hM⟩,rfl⟩|apply Exists.intro))
    |true=>
     have hst:=eU.out
     have hf1:=ee.out
     simp only[Bool.false_eq_true,if_false,if_true] at hst hf1
     have nT:=qh hst
     have HF2:=qh hf1
     clear hst hf1 eU ee
     (refine qw ?_;intros;rename_i hM)
     (refine qKx ?_;intro R hR)
     refine(CU.out _ (hM.mx HX.out F0)).mono ?_
     rintro e w' ⟨rfl,hb⟩
     replace hM:=hM.below hb
     refine qho ?_;clear hR R hb
     (refine qq ?_)
     (refine qw ?_;intros;rename_i hM)
     (refine qKx ?_;intro R hR)
     refine(AK.out _ β (hM.fs (x:=x) (β:=β) (d:=dk) qpt jU.out.inv HX.out F0)).mono ?_
     rintro e w' ⟨s2,β2,rfl,-,hN2⟩
     replace hM:=hM.backM (M:=fsL x β dk) (.skip (.skip (.skip .all))) (zr _ _ _) hN2 (fun y hy=>(laAz.1 hy).elim (zL _ _ y) (zr _ _ _ y))
     refine qho ?_;clear hR R hN2
     (refine qq ?_)
     (refine qw ?_;intros;rename_i hM)
     replace hM:=hM.forget.forget.subM ((laFz _ _).cons_cons _)
     simp only[Exit.then]
     (refine⟨?_,qio⟩;repeat(first|exact⟨⟨k+1,β2,_,by omega,rfl,nT.out,HF2.out,hM⟩,rfl⟩|apply Exists.intro))
  ·have k0:¬((k:Int)<(rs.length:Int)):=by omega
   obtain rfl:k=rs.length:=by omega
   have e:=mg.out
   rw[lbSz] at e
   clear hlt hk
   (refine qw ?_;intros;rename_i hM)
   (refine qf ?_)
   refine⟨rfl,β, ?_⟩
   rw[e]
   exact hM.subM (laFz _ _)
end
end
section
open Go.RowKit Go.Maps
section
variable {N:Nat}{X:cI}{x y:FsX}{β γ:Int→Nat×Nat}{D:ar}{d:FsD}{w w' w0:World}{F:List Nat}{L L' M M' R:List Ent}{b f g n:Nat}{s:Option (Nat×Nat)}
theorem At.GC{e:Ent}(h:At (e::R) w):St w [e.1] w (e::R.map zx):=by
 refine⟨Only.refl _ w,fun z hz=> ?_, ?_,fun z hz h1=> ?_⟩
 ·rcases laBz.1 hz with rfl|hz
  ·exact h.has z (.head _)
  ·obtain⟨y,hy,rfl⟩:=laKz.1 hz
   exact h.has y (.tail _ hy)
 ·have:=h.nd
  unfold ze at this
  rw[laDz] at this ⊢
  rw[lbZz]
  exact this
 ·rcases laBz.1 hz with rfl|hz
  ·exact .inl (by simp)
  ·obtain⟨y,hy,rfl⟩:=laKz.1 hz
   cases h1
theorem AL{l:List a_}{k:Nat}{z:a_}(h:l[k]? =some z)(d:FsD):Ol.replay d (l.take (k+1))=Ol.again (Ol.replay d (l.take k)) z:=by
 rw[lbJz,h,Option.toList_some,Ol.cX]
theorem AM{l:List Int}{k:Nat}{o:Int}(h:l[k]? =some o)(d:FsD):(l.take (k+1)).foldl Fs.exit d=Fs.exit ((l.take k).foldl Fs.exit d) o:=by
 rw[lbJz,h,Option.toList_some,ldIz]
 rfl
theorem XG{zs:List aj}{z:aj}(hM:St w0 F w L)(hs: ∀ e∈(zs.flatMap aj.ents).map zx,e∈L)(hz:z∈zs): ∀ e∈z.ents,e.2.2.holds w.heap[e.1]? :=fun e he=>
 hM.holds (zx e) (hs _ (laLz (laZz.2 ⟨z,hz,he⟩)))
theorem GD{zs:List aj}(hA:At (au b f y.f s zs.length::(aS s (zs.map aj.val)++(fsL y γ D.base++zs.flatMap aj.ents))) w0)(hk:SlOK s zs.length (zs.map aj.val) 1)(hz:zs.map (·.1)=D.log){K0:Nat}(hB:Ol.aH K0 D.base)(tN:K0+3*D.log.length≤30000)(hok: ∀ l∈D.log,Ol.fF l)(hX:Mx w0)(h0:0∉ze (au b f y.f s zs.length::(aS s (zs.map aj.val)++(fsL y γ D.base++zs.flatMap aj.ents))))(keep:Int):
  Calls Tryz.prog 30 #[.pointer (some ⟨b,0,none⟩),.int .i64 keep] w0 fun e w'=>e= .returned (.int .i64 0)∧ ∃ x1 β1 x2 β2,St w0 [b] w' (au b (FsX.f x1) (FsX.f x2) none 0::(fsL x1 β1 (Ol.aW D keep)++fsL x2 β2 (Ol.aW D keep))):=by
 have hY:FsAt K0 y γ D.base w0:=⟨hA.sub (((lbAz _ _).trans (laFz _ _)).cons _),hB.inv,hX,Ys (((lbAz _ _).trans (laFz _ _)).cons _) h0⟩
 have hM:=hA.GC
 have HY:=qh hY
 have HX:=qh hX
 have F0:0∉([b]:List Nat):=fun h=>h0 (by rcases laGz.1 h with rfl;exact .head _)
 have HB:=qh hB
 have HOK:=qh hok
 have HZ:=qh hz
 have HK:=qh hk
 have iI:zs.length=D.log.length:=by rw[←hz,lbMz]
 have hln:zs.length≤10000:=by omega
 obtain⟨kk,hkk⟩: ∃ kk:Nat,max 0 (min keep (zs.length:Int))=(kk:Int):=⟨(max 0 (min keep (zs.length:Int))).toNat,by omega⟩
 have hC:Ol.aW D keep=Ol.ay (Ol.aY (Ol.replay D.base (D.log.take kk))):=by
  unfold Ol.aW
  rw[←iI,hkk,Int.toNat_natCast]
 rw[hC]
 have hkl:kk≤zs.length:=by omega
 obtain⟨va,vc,hv,hva⟩:=zf hk
 have AF:(kk:Int)≤(vc:Int):=by
  rcases s with _|⟨g,cap⟩
  ·have:=hk.2;omega
  ·obtain⟨-,rfl⟩:=hva g cap rfl
   have:=hk.2.1
   omega
 have lK:=qh iI
 clear hA hY hX hB hok hz hk h0 hC iI
 unfold au at hM
 rw[hv] at hM
 rw[laMz,laMz] at hM
 go_enter Tryz.func30,Tryz.ntmps30
 (refine qw ?_;intros;rename_i hM)
 (refine qKx ?_;intro R hR)
 refine(ye (f:=f) (g:=y.f) (s:=s) (n:=zs.length) (by
  have:=hM.holds _ (.head _)
  unfold au
  rw[hv]
  exact this)).mono ?_
 (refine qgs ?_;clear hR R)
 (refine qw ?_;intros;rename_i hM)
 (refine qKx ?_;intro R hR)
 refine(YR HY.out (by omega)).mono ?_
 rintro e w' ⟨x1,β1,rfl,hN2⟩
 replace hM:=hM.madeM hN2 (zr _ _ _)
 refine qho ?_;clear hR R hN2
 replace hM:=hM.perm (lcMz)
 (refine qq ?_)
 (refine qw ?_;intros;rename_i hM)
 have RE: ∀ e∈(zs.flatMap aj.ents).map zx,e∈List.map zx (aS s (List.map aj.val zs))++(List.map zx (fsL y γ D.base)++List.map zx (List.flatMap aj.ents zs)):=fun e he=>laCz _ (laCz _ he)
 have RG: ∀ g cap,s=some (g,cap)→(g,false,Res.pre (zs.map aj.val) 138 (cap*1))∈List.map zx (aS s (List.map aj.val zs))++(List.map zx (fsL y γ D.base)++List.map zx (List.flatMap aj.ents zs)):=fun g cap hs=>by
  subst hs
  exact laEz _ (.head _)
 generalize List.map zx (aS s (List.map aj.val zs))++(List.map zx (fsL y γ D.base)++List.map zx (List.flatMap aj.ents zs))=RR at*
 have nQ:=qh RE
 have GF:=qh RG
 clear RE RG
 go_loopw [32] (fun i wr=> ∃ (k:Nat) (β':Int→Nat×Nat) (dk:FsD),k≤kk∧i= .int .i64 k∧Ol.replay D.base (D.log.take k)=dk∧Ol.aH (K0+3*k) dk∧St w0 [b] wr ((b,true,.cells [.pointer (some ⟨f,0,none⟩),.pointer (some ⟨y.f,0,none⟩),.slice va zs.length vc] 81)::(fsL x1 β' dk++RR))) (fun i _=>kk - (intOf i).toNat)
 case atStart=>exact⟨0,β1,D.base,by omega,rfl,rfl,HB.out,hM⟩
 case round=>
  clear hM
  obtain⟨k,β1,dk,hk,rfl,p7,lf,hM⟩:=hrel
  have mg:=qh p7
  have jU:=qh lf
  clear p7 lf
  by_cases hlt:k<kk
  ·obtain⟨z,jq⟩:=zK (xs:=zs) (k:=k) (by omega)
   rcases hs:s with _|⟨g,cap⟩
   ·have:=HK.out
    rw[hs] at this
    exact absurd this.2 (by omega)
   obtain⟨rfl,rfl⟩:=hva g cap hs
   have hmem:=GF.out g vc hs
   have cY:=laQz jq
   have nN:((zs.map aj.val).drop k).take 1=[z.val]:=by
    have h1:(zs.map aj.val)[k]? =some z.val:=by rw[lbCz,jq];rfl
    obtain⟨h2,h3⟩:=laHz.1 h1
    rw[lbIz h2,h3]
    rfl
   have hlk:D.log[k]? =some z.1:=by rw[←HZ.out,lbCz,jq];rfl
   have eU:=qh ((AL hlk D.base).trans (congrArg (fun q=>Ol.again q z.1) mg.out))
   have gP:=HOK.out z.1 (laQz hlk)
   have Jh:K0+3*k+3≤30000:=by have:=lK.out;omega
   have oD:=qh (Ol.cE jU.out (by omega) gP)
   have hlen:k+1≤(zs.map aj.val).length:=by rw[lbMz];omega
   have k1:(k:Int)<(kk:Int):=by omega
   clear jq hlk hs hlt
   (refine qw ?_;intros;rename_i hM)
   refine St.loadRow rfl hM rfl rfl rfl rfl (.tail _ (laCz _ hmem)) (by exact hlen) (by kernel_rfl) ?_
   simp only[Res.known]
   rw[nN]
   obtain⟨⟨o,_|p⟩,ob,qb⟩:=z
   ·have HH: ∀ w L,St w0 [b] w L→(∀ e∈RR,e∈L)→(Res.cells [.int .i64 o] 3).holds w.heap[ob]? :=fun w L hM hs=>XG (z:=((o,none),ob,qb)) hM (fun e he=>hs e (nQ.out e he)) cY (ob,true,.cells [.int .i64 o] 3) (.head _)
    simp only[aj.val]
    (refine qq ?_)
    (refine qw ?_;intros;rename_i hM)
    (refine St.callv rfl rfl rfl rfl (by kernel_rfl) (fun R hR=> ?_);simp only[lbOz,laDz,lbBz,Act.eval,zR,qGz,qGs,Array.append_empty,Array.empty_append])
    refine(FG (hM.fs (x:=x1) (β:=β1) (d:=dk) (.skip (.skip .here)) jU.out.inv HX.out F0) (by omega) gP.1 (HH _ _ hM (fun e he=> .tail _ (.tail _ (laCz _ he))))).mono ?_
    rintro e w' ⟨rfl,β2,hN2⟩
    replace hM:=hM.backM (M:=fsL x1 β1 dk) (.skip (.skip .here)) (zr _ _ _) hN2 (zr _ _ _)
    refine qho ?_;clear hR R hN2
    (refine qq ?_)
    (refine qw ?_;intros;rename_i hM)
    replace hM:=hM.forget
    simp only[Exit.then]
    (refine⟨?_,qio⟩;repeat(first|exact⟨⟨k+1,β2,_,by omega,rfl,eU.out,oD.out,hM⟩,rfl⟩|apply Exists.intro))
   ·have GG: ∀ w L,St w0 [b] w L→(∀ e∈RR,e∈L)→(Res.cells [.int .i64 o] 3).holds w.heap[ob]? :=fun w L hM hs=>XG (z:=((o,some p),ob,qb)) hM (fun e he=>hs e (nQ.out e he)) cY (ob,true,.cells [.int .i64 o] 3) (.head _)
    have GH: ∀ w L,St w0 [b] w L→(∀ e∈RR,e∈L)→(Res.cells p.cells 34).holds w.heap[qb]? :=fun w L hM hs=>XG (z:=((o,some p),ob,qb)) hM (fun e he=>hs e (nQ.out e he)) cY (qb,true,.cells p.cells 34) (.tail _ (.head _))
    simp only[aj.val]
    (refine qq ?_)
    (refine qw ?_;intros;rename_i hM)
    (refine St.callv rfl rfl rfl rfl (by kernel_rfl) (fun R hR=> ?_);simp only[lbOz,laDz,lbBz,Act.eval,zR,qGz,qGs,Array.append_empty,Array.empty_append])
    refine(FF (hM.fs (x:=x1) (β:=β1) (d:=dk) (.skip (.skip .here)) jU.out.inv HX.out F0) (by omega) gP.1 (gP.2 p rfl) (GG _ _ hM (fun e he=> .tail _ (.tail _ (laCz _ he)))) (GH _ _ hM (fun e he=> .tail _ (.tail _ (laCz _ he))))).mono ?_
    rintro e w' ⟨rfl,β2,hN2⟩
    replace hM:=hM.backM (M:=fsL x1 β1 dk) (.skip (.skip .here)) (zr _ _ _) hN2 (zr _ _ _)
    refine qho ?_;clear hR R hN2
    (refine qq ?_)
    (refine qw ?_;intros;rename_i hM)
    replace hM:=hM.forget
    simp only[Exit.then]
    (refine⟨?_,qio⟩;repeat(first|exact⟨⟨k+1,β2,_,by omega,rfl,eU.out,oD.out,hM⟩,rfl⟩|apply Exists.intro))
  ·have k0:¬((k:Int)<(kk:Int)):=by omega
   obtain rfl:k=kk:=by omega
   clear hlt hk
   (refine qw ?_;intros;rename_i hM)
   (refine qKx ?_;intro R hR)
   refine(vR (hM.fs (x:=x1) (β:=β1) (d:=dk) (.skip .here) jU.out.inv HX.out F0) (by omega)).mono ?_
   rintro e w' ⟨s2,rfl,hk2,hN2⟩
   replace hM:=hM.madeM hN2 (zo _ _ _ _)
   refine qho ?_;clear hR R hN2
   have oH:(Fs.af dk).length≤30000:=by
    have:=jU.out.inv.len
    unfold Fs.af
    rw[lbMz]
    have:=lK.out
    omega
   have tO:=qh (Ol.dE jU.out)
   have hex:Ol.aY dk=(Fs.af dk).foldl Fs.exit dk:=rfl
   have HEX:=qh hex
   have tP:=qh (jU.out.more (M:=30000) (by have:=lK.out;omega))
   obtain⟨v2,c2,eh,tQ⟩:=zf hk2
   have HK2:=qh hk2
   rw[eh]
   generalize Fs.af dk=os at*
   clear hex hk2 hkk AF
   (refine qq ?_)
   (refine qw ?_;intros;rename_i hM)
   go_loopw [9,44] (fun _ i wr=> ∃ (j:Nat) (β':Int→Nat×Nat) (dj:FsD),j≤os.length∧i= .int .i64 j∧(os.take j).foldl Fs.exit dk=dj∧Ol.aH 30000 dj∧St w0 [b] wr (slL s2 (os.map (Value.int .i64)) 3 1++((b,true,.cells [.pointer (some ⟨f,0,none⟩),.pointer (some ⟨y.f,0,none⟩),.slice va zs.length vc] 81)::(fsL x1 β' dj++RR)))) (fun _ i _=>os.length - (intOf i).toNat)
   case atStart=>exact⟨0,β1,dk,by omega,rfl,rfl,tP.out,hM⟩
   case round=>
    clear hM
    obtain⟨j,β2,dj,hj,rfl,AN,AO,hM⟩:=hrel
    have ly:=qh AN
    have oQ:=qh AO
    clear AN AO
    by_cases hlt:j<os.length
    ·obtain⟨o,ho⟩:=zK hlt
     rcases hs2:s2 with _|⟨g2,cap2⟩
     ·have:=HK2.out
      rw[hs2] at this
      exact absurd this.2 (by omega)
     obtain⟨rfl,rfl⟩:=tQ g2 cap2 hs2
     have p9:=tO.out o (laQz ho)
     have eU:=qh ((AM ho dk).trans (congrArg (fun q=>Fs.exit q o) ly.out))
     have oD:=qh (Ol.cm oQ.out p9)
     have hx':(os.map (Value.int .i64))[j]? =some (.int .i64 o):=by rw[lbCz,ho];rfl
     have j1:(j:Int)<(os.length:Int):=by omega
     subst hs2
     clear ho hlt
     simp only[slL,laIz,laJz] at hM
     (refine qw ?_;intros;rename_i hM)
     (refine qKx ?_;intro R hR)
     refine(zaW (hM.fs (x:=x1) (β:=β2) (d:=dj) (.skip (.skip .here)) oQ.out.inv HX.out F0) (by omega) p9).mono ?_
     rintro e w' ⟨rfl,⟨β3,hN2⟩,-⟩
     replace hM:=hM.backM (M:=fsL x1 β2 dj) (.skip (.skip .here)) (zr _ _ _) hN2 (zr _ _ _)
     refine qho ?_;clear hR R hN2
     (refine qq ?_)
     (refine qw ?_;intros;rename_i hM)
     simp only[Exit.then]
     (refine⟨?_,qio⟩;repeat(first|exact⟨⟨j+1,β3,_,by omega,rfl,eU.out,oD.out,hM⟩,rfl⟩|apply Exists.intro))
    ·have k0:¬((j:Int)<(os.length:Int)):=by omega
     obtain rfl:j=os.length:=by omega
     have e:=ly.out
     rw[lbSz,←HEX.out] at e
     rw[←e] at hM oQ
     clear hlt hj e ly
     replace hM:=hM.subM (laFz _ _)
     have rT:=qh (show Ol.aY (Ol.replay D.base (D.log.take k))=Ol.aY dk by rw[mg.out])
     clear HEX
     generalize Ol.aY dk=de at*
     (refine qw ?_;intros;rename_i hM)
     (refine qKx ?_;intro R hR)
     refine(GB (hM.fs (x:=x1) (β:=β2) (d:=de) (.skip .here) oQ.out.inv HX.out F0) oQ.out (by omega)).mono ?_
     rintro e w' ⟨rfl,β3,hN2⟩
     replace hM:=hM.backM (M:=fsL x1 β2 de) (.skip .here) (zr _ _ _) hN2 (zr _ _ _)
     refine qho ?_;clear hR R hN2
     have mX:=qh (Ol.dO oQ.out)
     have GI:=qh (congrArg Ol.ay rT.out)
     generalize Ol.ay de=dz at*
     (refine qq ?_)
     (refine qw ?_;intros;rename_i hM)
     (refine qKx ?_;intro R hR)
     rw[←hv] at hM
     have hS:St w0 [b] _ ((au b x1.f y.f s zs.length::fsL x1 β3 dz)++RR):=hM
     have tR:St w0 [b] _ (au b x1.f y.f s zs.length::(fsL x1 β3 dz++RR)):=hM
     clear hM
     refine(y_ (tR.fs (x:=x1) (β:=β3) (d:=dz) (.skip .here) mX.out.inv HX.out F0) (by omega) (hS.part .here)).mono ?_
     rintro e w' ⟨rfl,x2,β4,hN2⟩
     have hM:=tR.backM (M:=[au b x1.f y.f s zs.length]) .one (oF _ _) hN2 (fun y hy=>by
      rcases laBz.1 hy with rfl|hy
      ·rfl
      ·exact zr _ _ _ y hy)
     refine qho ?_;clear hR R hN2 hS tR
     (refine qq ?_)
     (refine qw ?_;intros;rename_i hM)
     (refine qf ?_)
     refine⟨rfl,x1,β3,x2,β4, ?_⟩
     rw[GI.out]
     have GJ:St w0 [b] w' ((au b x1.f x2.f none 0::fsL x2 β4 dz)++fsL x1 β3 dz):=hM.subM (List.Sublist.append_left (lbAz _ _) _)
     exact GJ.perm (L':=au b x1.f x2.f none 0::(fsL x1 β3 dz++fsL x2 β4 dz)) (zV (by intro _ x;simp only[lbKz,laXz,lbEz,lbLz,laIz,laJz];omega))
end
end
section
open Go.RowKit Go.Maps
namespace Hs
theorem bj.nU{N:Nat}{d:FsD}{hs:List ae}(I:Fs.Inv N d)(L:bj hs d.h)(h:Fs.af d=[]):hs=[]:=by
 have e:=ez I L
 rw[h] at e
 cases hs with
 |nil=>rfl
 |cons z r=>
  obtain⟨-,h2⟩:=xB (z::r) [] .nil
  have h3:=(h2 z.owner).2 (.inr ⟨z,.head _,rfl⟩)
  rw[show(z::r).foldl (fun l z=>Zz z.owner l) []=af (z::r) from rfl,e] at h3
  cases h3
end Hs
namespace Fs
theorem iL{N:Nat}{d:FsD}(I:In.Inv N d.t)(L:ao d.t): ∀ f∈files d,f.path.size≤96:=fun f hf=>by
 rw[dS L] at hf
 obtain⟨e,he,rfl⟩:=laKz.1 hf
 obtain⟨h1,h2,h3⟩:=iz I he
 exact(L.paths e.1 h1 (by rw[h2];exact h3)).short
end Fs
section
variable {w w' w0 w1 w2:World}{X X':iG}{Z Z':bQ}{D D':ar}{V V':fh}{N M:Nat}{F F' G:List Nat}{L:List Ent}{d:FsD}{zs:List NodV}{hs:List ae}
theorem dH.below(h:dH N X D V X' D' V' w w1)(hb:Below w1.heap.size w1 w2):dH N X D V X' D' V' w w2:=⟨h.d,h.is.below hb,h.only.below (hb.mono h.only.size),h.own,h.grow⟩
theorem GK{g cap:Nat}{l:List a_}(hA:At (jQ (some (g,cap)) l) w){k:Nat}{z:a_}(hz:l[k]? =some z):w.rangeAt g (k*11) (bH z):=by
 have hk:=(laHz.1 hz).1
 have:=Res.range (q:=k*11) (n:=11) (hA.has (g,true,.pre (l.flatMap bH) 36 (cap*11)) (.head _)) (by show k*11+11≤(l.flatMap bH).length;rw[Am];omega)
 rw[show(Res.pre (l.flatMap bH) 36 (cap*11)).known=l.flatMap bH from rfl,F7 hz] at this
 exact this
theorem GL{g k:Nat}{o:Int}{p:OpD}(h:w.rangeAt g (k*11) (bH (o,some p))):w.rangeAt g (k*11+2) p.cells:=fun j v hj=>by
 have:=h (j+2) v hj
 rwa [show k*11+2+j=k*11+(j+2) by omega]
structure dV (B:Nat) (K:List Nat) (M:Nat) (Z:bQ) (d:FsD) (zs:List NodV) (hs:List ae):Prop where
 is: ∀ W,At (aV Z d zs hs) W→dF M Z d zs hs W
 keys: ∀ k∈ze (aV Z d zs hs),k∈K∨B≤k
theorem dV.to{B:Nat}{K:List Nat}{M M':Nat}{d':FsD}{zs':List NodV}{hs':List ae}(h:dV B K M Z d zs hs)(hto:dU M' Z d zs hs d' Z' zs' hs' w w')(hw:B≤w.heap.size):dV B K M' Z' d' zs' hs':=
 ⟨fun _ hA=>hto.fs.at_ hA,fun k hk=>by
  rcases hto.grow k hk with h1|h1
  ·exact h.keys k h1
  ·exact .inr (Nat.le_trans hw h1)⟩
theorem GM{xd:Nat}{xn xb Q:bQ}{xs:Option (Nat×Nat)}{zb z3:List NodV}{hb h3:List ae}{keep:Int}{dz:FsD}{W:World}(h:cz N ⟨xd,xn,xb,xs⟩ D ⟨zs,hs,zb,hb⟩ w0)(hN:N≤30000)
  (hQ:dV w0.heap.size (ze (aV xb D.base zb hb)) M Q dz z3 h3) (hz:Ol.aW D keep=dz) (ho:Fs.af dz=[])
  (hM:St w0 [xd] W ((xd,true,.cells [.pointer (some ⟨Q.f,0,none⟩),.pointer (some ⟨xb.f,0,none⟩),slV xs D.log.length] 72)::aV Q dz z3 h3)):cz N ⟨xd,Q,xb,xs⟩ ⟨dz,D.base,D.log⟩ ⟨z3,h3,zb,hb⟩ W:=by
 have p_:At (jQ xs D.log) w0:=h.at_.sub (by unfold bT;exact(lbAz _ _).cons _)
 have rU: ∀ k∈ze (jQ xs D.log),k≠xd∧k<w0.heap.size∧k∉ze (aV xb D.base zb hb):=fun k hk=>by
  have h1:=h.at_.nd
  rw[Zb] at h1
  refine⟨fun e=>(laTz.1 h1).1 (e▸laEz _ hk),p_.lt k hk,h.apart k (ZD.2 (.inr (.inl hk)))⟩
 have hnd:=hM.nd
 simp only[laDz,laTz] at hnd
 have qa:xd∉ze (aV xb D.base zb hb):=h.apart xd (ZD.2 (.inl rfl))
 have hB:dF N xb D.base zb hb W:=h.base.only hM.only fun k hk hm=>by
  rcases laGz.1 hm with rfl
  exact qa hk
 have hL:At (jQ xs D.log) W:=p_.only hM.only fun k hk hm=>by
  rcases laGz.1 hm with rfl
  exact(rU _ hk).1 rfl
 have tS:At (aV Q dz z3 h3) W:=hM.forget.whole
 have fQ:=hQ.is W tS
 have tT:h3=[]:=fQ.fM.nU fQ.inv.inv ho
 have lf:=Ol.ep h.inv (by omega) keep
 rw[hz] at lf
 have hlw:=(Ol.kh h.inv ⟨h.law.now,h.law.base⟩ (by omega) keep).2
 rw[hz] at hlw
 refine⟨⟨fun y hy=> ?_, ?_⟩,h.iR,⟨fQ.is,fQ.fM,by rw[tT];exact Nat.zero_le _,lf⟩,hB,⟨lf,h.inv.base,h.inv.ok⟩,⟨hlw,h.law.base,h.law.sm⟩,fun k hk=> ?_⟩
 ·unfold bT ju at hy
  rcases laBz.1 hy with rfl|hy
  ·exact hM.holds _ (.head _)
  ·exact(laAz.1 hy).elim (hL.has y) (tS.has y)
 ·rw[Zb,laTz,laAz,laSz]
  refine⟨fun hm=>hm.elim (fun h1=>(rU _ h1).1 rfl) hnd.1,hL.nd,tS.nd,fun a ha b hb e=> ?_⟩
  subst e
  have h1:=rU a ha
  rcases hQ.keys a hb with h2|h2
  ·exact h1.2.2 h2
  ·omega
 ·rcases ZD.1 hk with rfl|hk|hk
  ·exact qa
  ·exact(rU k hk).2.2
  ·intro hm
   obtain⟨r,hr⟩:=Zr (zs:=z3) (q:=dz.t.quota) (nx:=dz.t.last+1) k hk
   rcases hM.own (k,true,r) (.tail _ hr) rfl with h1|h1
   ·exact hnd.1 (by rw[←laGz.1 h1];exact laLz (f:=(·.1)) hr)
   ·have:=h.base.is.at_.lt k hm
    exact absurd h1 (by simp only;omega)
theorem GN{xd:Nat}{xn xb Q:bQ}{xs:Option (Nat×Nat)}{zb z3:List NodV}{hb h3:List ae}{dz:FsD}{W:World}(h:cz N ⟨xd,xn,xb,xs⟩ D ⟨zs,hs,zb,hb⟩ w0)
  (hQ:dV w0.heap.size (ze (aV xb D.base zb hb)) M Q dz z3 h3)
  (hM:St w0 [xd] W ((xd,true,.cells [.pointer (some ⟨Q.f,0,none⟩),.pointer (some ⟨xb.f,0,none⟩),slV xs D.log.length] 72)::aV Q dz z3 h3)) (hto:dH N ⟨xd,Q,xb,xs⟩ ⟨dz,D.base,D.log⟩ ⟨z3,h3,zb,hb⟩ X' D' V' W w'):dH N ⟨xd,xn,xb,xs⟩ D ⟨zs,hs,zb,hb⟩ X' D' V' w0 w':=by
 have hsz:=hM.only.size
 have hg: ∀ k∈cS ⟨xd,Q,xb,xs⟩ ⟨dz,D.base,D.log⟩ h3,k∈cS ⟨xd,xn,xb,xs⟩ D hs∨w0.heap.size≤k:=fun k hk=>by
  rcases ZD.1 hk with rfl|hk|hk
  ·exact .inl (ZD.2 (.inl rfl))
  ·exact .inl (ZD.2 (.inr (.inl hk)))
  ·obtain⟨r,hr⟩:=Zr (zs:=z3) (q:=dz.t.quota) (nx:=dz.t.last+1) k hk
   rcases hM.own (k,true,r) (.tail _ hr) rfl with h1|h1
   ·exact .inl (ZD.2 (.inl (laGz.1 h1)))
   ·exact .inr h1
 refine⟨hto.d,hto.is,(hM.only.mono (fun k hk=>by rcases laGz.1 hk with rfl;exact ZD.2 (.inl rfl))).then hto.only hg,fun k hk=> ?_,fun k hk=> ?_⟩
 ·rcases hto.own k hk with h1|h1
  ·exact hg k h1
  ·exact .inr (Nat.le_trans hsz h1)
 ·rcases hto.grow k hk with h1|h1
  ·rcases laAz.1 h1 with h1|h1
   ·rw[Zb] at h1
    rcases laBz.1 h1 with rfl|h1
    ·exact .inl (laEz _ (by rw[Zb];exact .head _))
    ·rcases laAz.1 h1 with h1|h1
     ·exact .inl (laEz _ (by rw[Zb];exact .tail _ (laEz _ h1)))
     ·rcases hQ.keys k h1 with h2|h2
      ·exact .inl (laCz _ h2)
      ·exact .inr h2
   ·exact .inl (laCz _ h1)
  ·exact .inr (Nat.le_trans hsz h1)
theorem GO{fs:List ah}{m:Nat}{x:ah}(h:fs[m]? =some x):(fs.flatMap ah.cells)[m*3]? =some (.string x.path)∧(fs.flatMap ah.cells)[m*3+1]? =some (.bool x.dir):=by
 have h1:=pN h
 have g: ∀ i,i<3→(fs.flatMap ah.cells)[m*3+i]? =([.string x.path,.bool x.dir,.string x.data]:List Value)[i]? :=fun i hi=>by
  rw[←h1,lcKz,if_pos hi,lcFz]
 exact⟨g 0 (by omega),g 1 (by omega)⟩
theorem GP{fs:List ah}{m:Nat}{x:ah}(h:fs[m]? =some x)(de:FsD):(fs.drop m).reverse.foldl Ol.aw de=Ol.aw ((fs.drop (m+1)).reverse.foldl Ol.aw de) x:=by
 obtain⟨hk,rfl⟩:=laHz.1 h
 rw[lbIz hk,List.reverse_cons,ldIz]
 rfl
theorem GQ(h:cz N X D V w0)(hN:N≤30000)(keep:Int):Calls Tryz.prog 37 #[.pointer (some ⟨X.d,0,none⟩),.int .i64 keep] w0 fun e w'=>e= .returned (.tuple #[])∧ ∃ X' V',dH N X D V X' (Ol.cut D keep) V' w0 w':=by
 have iI:=pY h
 have hst:=h.st
 obtain⟨xd,xn,xb,xs⟩:=X
 obtain⟨zs,hs,zb,hb⟩:=V
 obtain⟨va,vc,hv,hva⟩:=zf h.iR
 unfold bT ju at hst
 simp only at hst hv hva
 rw[hv] at hst
 have hnd:=hst.nd
 have hM:St w0 [xd] w0 [(xd,true,.cells [.pointer (some ⟨xn.f,0,none⟩),.pointer (some ⟨xb.f,0,none⟩),.slice va D.log.length vc] 72)]:=
  ⟨Only.refl _ _,fun y hy=>hst.holds y (by rcases laGz.1 hy with rfl;exact .head _),by simp,fun y hy _=> .inl (by rcases laGz.1 hy with rfl;exact .head _)⟩
 have lK:=qh (show At (jQ xs D.log) w0 from hst.whole.sub ((lbAz _ _).cons _))
 have GR:=qh (show ∀ g cap,xs=some (g,cap)→g∉[xd] from fun g cap e hm=>by
  rcases laGz.1 hm with rfl
  subst e
  simp only[laDz,laTz] at hnd
  exact hnd.1 (by rw[laMz];exact laEz _ (.head _)))
 have qa:xd∉ze (aV xb D.base zb hb):=h.apart xd (ZD.2 (.inl rfl))
 have HC:=qh (xu h.base)
 have HH:=qh h
 have HV:=qh hv
 have HK:=qh h.iR
 have HSM:=qh h.law.sm
 have AP:=qh h.inv.ok
 obtain⟨K0,AQ,Ji⟩:=h.inv.base
 have GS:=qh AQ
 have GU:=qh h.law.base
 have mK:=qh (h.base.ents)
 have GV:=qh (show ∀ k∈ze (zb.flatMap NodV.ents),k∉[xd] from fun k hk hm=>by
  rcases laGz.1 hm with rfl
  exact qa (yj _ hk))
 have qc:=qh (show ∀ k∈ze (zb.flatMap NodV.ents),k<w0.heap.size from fun k hk=>h.base.is.at_.lt _ (yj _ hk))
 obtain⟨KB,AR⟩: ∃ KB,ze (aV xb D.base zb hb)=KB:=⟨_,rfl⟩
 have AS:=qh AR
 obtain⟨kk,hkk⟩: ∃ kk:Nat,max 0 (min keep (D.log.length:Int))=(kk:Int):=⟨(max 0 (min keep (D.log.length:Int))).toNat,by omega⟩
 have hC:Ol.aW D keep=Ol.ay (Ol.aY (Ol.replay D.base (D.log.take kk))):=by
  unfold Ol.aW
  rw[hkk,Int.toNat_natCast]
 have rT:=qh hC
 have hkl:kk≤D.log.length:=by omega
 clear h hst hnd hv AQ qa AR hC
 go_enter Tryz.func37,Tryz.ntmps37
 (refine qw ?_;intros;rename_i hM)
 (refine qKx ?_;intro R hR)
 refine HC.out.mono ?_
 rintro e w' ⟨X1,rfl,HX,rV⟩
 have AT:Below w0.heap.size w0 w':=rV.only.to_below (Nat.le_refl _) nofun
 have lk: ∀ k∈ze (du X1 D.base zb hb),w0.heap.size≤k:=fun k hk=>by
  obtain⟨y,hy,rfl⟩:=laKz.1 hk
  exact(rV.own y hy (Ye y hy)).resolve_left nofun
 have GW:xd<w0.heap.size:=hM.lt (.head _)
 replace hM:=hM.madeM rV Ye
 replace hM:=St.fP (HH.out).base hM (mK.out.below AT) (fun k hk hm=>by
  have h1:=qc.out k hk
  rw[zF] at hm
  rcases laAz.1 hm with hm|hm
  ·have:=lk k hm
   omega
  ·exact GV.out k hk hm)
 have kn:=qh (show dV w0.heap.size KB N X1 D.base zb hb from ⟨HX.out,fun k hk=>by
  rcases xK hk with h1|h1
  ·exact .inr (lk k h1)
  ·exact .inl (by rw[←AS.out];exact yj k h1)⟩)
 replace hM:=hM.perm lcWz
 simp only[laIz,laJz] at hM
 refine qho ?_;clear hR R rV HC HX AT lk
 (refine qq ?_)
 (refine qw ?_;intros;rename_i hM)
 go_loopw [5] (fun i wr=> ∃ (k:Nat) (Z:bQ) (dk:FsD) (z1:List NodV) (h1:List ae),k≤kk∧i= .int .i64 k∧Z.f=X1.f∧Hid (Ol.replay D.base (D.log.take k)=dk)∧Hid (dV w0.heap.size KB (N+3*k) Z dk z1 h1)∧St w0 [xd] wr ((xd,true,.cells [.pointer (some ⟨xn.f,0,none⟩),.pointer (some ⟨xb.f,0,none⟩),.slice va D.log.length vc] 72)::aV Z dk z1 h1)) (fun i _=>kk - (intOf i).toNat)
 case atStart=>exact⟨0,X1,D.base,zb,hb,by omega,rfl,rfl,qh rfl,kn,hM⟩
 case round=>
  clear hM kn
  obtain⟨k,Z,dk,z1,h1,hk,rfl,nV,mg,kn,hM⟩:=hrel
  have ln:=qh hM.only.size
  by_cases hlt:k<kk
  ·obtain⟨z,jq⟩:=zK (xs:=D.log) (k:=k) (by omega)
   obtain⟨g,cap,rfl⟩: ∃ g cap,xs=some (g,cap):=by
    rcases xs with _|⟨g,cap⟩
    ·exact absurd HK.out.2 (by omega)
    ·exact⟨g,cap,rfl⟩
   obtain⟨rfl,rfl⟩:=hva g cap rfl
   have oN:g∉[xd]:=GR.out g _ rfl
   have r1:=GK lK.out jq
   have eU:=qh ((AL jq D.base).trans (congrArg (fun q=>Ol.again q z) mg.out))
   have gP:=AP.out z (laQz jq)
   have hsm:=HSM.out z (laQz jq)
   have k1:(k:Int)<(D.log.length:Int):=by omega
   have k2:(k:Int)<keep:=by omega
   clear jq hlt
   obtain⟨o,_|p⟩:=z
   ·have c0:w0.cell? ⟨g,k*11,none⟩=some (.int .i64 o):=r1 0 _ rfl
    have c1:w0.cell? ⟨g,k*11+1,none⟩=some (.bool true):=r1 1 _ rfl
    have HEX:=qh (fun (W:World) (hA:At (aV Z dk z1 h1) W)=>XE (kn.out.is W hA) (by omega) gP.1)
    clear r1 gP hsm
    rw[←nV]
    (refine qw ?_;intros;rename_i hM)
    (refine qKx ?_;intro R hR)
    refine(HEX.out _ (hM.part (Part.skip Part.all))).mono ?_
    rintro e w' ⟨rfl,Z2,z2,h2,hto⟩
    have eF:=qh ((kn.out.to hto (by have:=hM.only.size;omega)))
    have nW:=hto.f
    replace hM:=hM.az (Swap.skip Swap.all) hto.st Zr hto.grow
    refine qho ?_;clear hR R HEX hto kn
    (refine qq ?_)
    (refine qw ?_;intros;rename_i hM)
    (try simp only[Exit.then])
    rw[nV]
    (refine⟨?_,qio⟩;repeat(first|exact⟨⟨k+1,Z2,_,z2,h2,by omega,rfl,nW.trans nV,eU,qh ⟨fun W hA=>(eF.out.is W hA).more (by omega),eF.out.keys⟩,hM⟩,rfl⟩|apply Exists.intro))
   ·have c0:w0.cell? ⟨g,k*11,none⟩=some (.int .i64 o):=r1 0 _ rfl
    have c1:w0.cell? ⟨g,k*11+1,none⟩=some (.bool false):=r1 1 _ rfl
    have r2:=GL r1
    have iS:=qh (fun (W:World) (hA:At (aV Z dk z1 h1) W)=>Xg (kn.out.is W hA) (by omega) gP.1 p (hsm p rfl))
    have tU:=qh (show Ol.replay D.base (D.log.take (k+1))=(Fs.do_ dk o p).2 from eU.out)
    generalize Fs.do_ dk o p=G at*
    obtain⟨⟨er,n,da,ns⟩,d2⟩:=G
    unfold OpD.cells at r2
    simp only[OpD.cells] at iS
    clear r1 gP hsm eU
    rw[←nV]
    (repeat(first|(refine qW0 ?_;clear hM;intros;rename_i hM)|((first|refine qD (id:=6) hM (Sub.take Sub.nil) [4,8,12] [(0,0),(1,0),(2,0),(3,0),(4,1),(5,0),(6,0),(7,0),(8,1),(9,0),(10,0),(11,0),(12,1),(13,2),(14,2),(15,2),(16,2),(17,2)] ?_);clear hM;intro w hM Kr hKr)))
    (refine qKx ?_;intro R hR)
    refine(iS.out _ (hM.part (Part.skip Part.all))).mono ?_
    rintro e w' ⟨s,Z2,z2,h2,rfl,-,-,-,hto⟩
    have eF:=qh ((kn.out.to hto (by have:=hM.only.size;omega)))
    have nW:=hto.f
    replace hM:=hM.az (Swap.skip Swap.all) hto.st Zr hto.grow
    first|refine hR.out _ _ ?_|refine hR.out _ _ (fun _=>hM.held (fun x hx=>by rcases laGz.1 hx with rfl;exact .head _)) ?_
    clear hR R iS hto kn
    (refine qq ?_)
    (repeat(first|(refine qW0 ?_;clear hM;intros;rename_i hM)|((first|refine qD (id:=6) hM (Sub.take Sub.nil) [4,8,12] [(0,0),(1,0),(2,0),(3,0),(4,1),(5,0),(6,0),(7,0),(8,1),(9,0),(10,0),(11,0),(12,1),(13,2),(14,2),(15,2),(16,2),(17,2)] ?_);clear hM;intro w hM Kr hKr)))
    (try simp only[Exit.then])
    rw[nV]
    (refine⟨?_,qio⟩;repeat(first|exact⟨⟨k+1,Z2,_,z2,h2,by omega,rfl,nW.trans nV,tU,qh ⟨fun W hA=>(eF.out.is W hA).more (by omega),eF.out.keys⟩,hM⟩,rfl⟩|apply Exists.intro))
  ·obtain rfl:k=kk:=by omega
   have dX:=qh (show Ol.aW D keep=Ol.ay (Ol.aY dk) by rw[rT.out,mg.out])
   have p5:=qh (fun (W:World) (hA:At (aV Z dk z1 h1) W)=>wW (kn.out.is W hA).is)
   have mZ:=qh ((kn.out.is _ (hM.part (Part.skip Part.all))).inv)
   have bo:=qh ((kn.out.is _ (hM.part (Part.skip Part.all))).fM)
   have GX:=qh (show Fs.ao dk.t by
    rw[←mg.out]
    exact Ol.cJ _ (fun x hx=>AP.out x (lcIz hx)) GS.out (by rw[lbTz];omega) GU.out)
   rw[Hs.ez mZ.out.inv bo.out] at p5
   have oH:(Fs.af dk).length≤900000:=by
    have:=mZ.out.inv.len
    unfold Fs.af
    rw[lbMz]
    omega
   have tO:=qh (Ol.dE mZ.out)
   have HEX:=qh (show Ol.aY dk=(Fs.af dk).foldl Fs.exit dk from rfl)
   generalize Fs.af dk=os at*
   have qd:=qh (show ¬((k:Int)<(D.log.length:Int))∨((k:Int)<(D.log.length:Int)∧decide ((k:Int)<keep)=false) by
    by_cases hq:(k:Int)<(D.log.length:Int)
    ·exact .inr ⟨hq,decide_eq_false (by omega)⟩
    ·exact .inl hq)
   clear hlt rT
   rcases qd.out with q1|⟨q1,q2⟩
   all_goals (
    clear hkk
    rw[←nV]
    (refine qw ?_;intros;rename_i hM)
    (refine qKx ?_;intro R hR)
    refine(p5.out _ (hM.part (Part.skip Part.all))).mono ?_
    rintro e w' ⟨s,rfl,hok,hst⟩
    replace hM:=hM.madeM hst (zo _ _ _ _)
    refine qho ?_;clear hR R hst p5
    obtain⟨ua,uc,hu,j6⟩:=zf hok
    have HOK:=qh hok
    rw[hu]
    clear hok hu
    (refine qq ?_)
    (refine qw ?_;intros;rename_i hM)
    go_loopw [7] (fun i wr=> ∃ (j:Nat) (Y:bQ) (dj:FsD) (z2:List NodV) (h2:List ae),j≤os.length∧i= .int .i64 j∧Y.f=Z.f∧Hid ((os.take j).foldl Fs.exit dk=dj)∧Hid (dV w0.heap.size KB (N+3*k) Y dj z2 h2)∧Hid (Fs.ao dj.t)∧St w0 [xd] wr (slL s (os.map (Value.int .i64)) 3 1++((xd,true,.cells [.pointer (some ⟨xn.f,0,none⟩),.pointer (some ⟨xb.f,0,none⟩),.slice va D.log.length vc] 72)::aV Y dj z2 h2))) (fun i _=>os.length - (intOf i).toNat)
    case atStart=>exact⟨0,Z,dk,z1,h1,by omega,rfl,rfl,qh rfl,kn,GX,hM⟩
    case round=>
     clear hM
     obtain⟨j,Y,dj,z2,h2,hj,rfl,rW,ly,mh,tV,hM⟩:=hrel
     by_cases hlt:j<os.length
     ·obtain⟨o,ho⟩:=zK hlt
      obtain⟨g2,cap2,rfl⟩: ∃ g2 cap2,s=some (g2,cap2):=by
       rcases s with _|⟨g2,cap2⟩
       ·exact absurd HOK.out.2 (by omega)
       ·exact⟨g2,cap2,rfl⟩
      obtain⟨rfl,rfl⟩:=j6 g2 cap2 rfl
      have p9:=tO.out o (laQz ho)
      have eU:=qh ((AM ho dk).trans (congrArg (fun q=>Fs.exit q o) ly.out))
      have hx':(os.map (Value.int .i64))[j]? =some (.int .i64 o):=by rw[lbCz,ho];rfl
      have j1:(j:Int)<(os.length:Int):=by omega
      have AU:=qh (fun (W:World) (hA:At (aV Y dj z2 h2) W)=>XE (mh.out.is W hA) (by omega) p9)
      have HLN:=qh (fun (W:World) (hA:At (aV Y dj z2 h2) W)=>Fs.cH (mh.out.is W hA).inv.inv tV.out o)
      clear ho hlt p9
      simp only[slL,laIz,laJz] at hM
      rw[←rW]
      (refine qw ?_;intros;rename_i hM)
      (refine qKx ?_;intro R hR)
      have sk:=qh (HLN.out _ (hM.part (Part.skip (Part.skip Part.all))))
      refine(AU.out _ (hM.part (Part.skip (Part.skip Part.all)))).mono ?_
      rintro e w' ⟨rfl,Y2,z3,h3,hto⟩
      have eF:=qh ((mh.out.to hto (by have:=hM.only.size;omega)))
      have tW:=hto.f
      replace hM:=hM.az (Swap.skip (Swap.skip Swap.all)) hto.st Zr hto.grow
      refine qho ?_;clear hR R AU hto mh HLN
      (refine qq ?_)
      (refine qw ?_;intros;rename_i hM)
      (try simp only[Exit.then])
      rw[rW]
      (refine⟨?_,qio⟩;repeat(first|exact⟨⟨j+1,Y2,_,z3,h3,by omega,rfl,tW.trans rW,eU,eF,sk,hM⟩,rfl⟩|apply Exists.intro))
     ·have k0:¬((j:Int)<(os.length:Int)):=by omega
      obtain rfl:j=os.length:=by omega
      have e:=ly.out
      rw[lbSz,←HEX.out] at e
      subst e
      replace hM:=hM.subM (laFz _ _)
      have qe:=qh ((mh.out.is _ (hM.part (Part.skip Part.all))).inv)
      have GY:=qh ((mh.out.is _ (hM.part (Part.skip Part.all))).fM)
      have dt:=qh (fun (W:World) (hA:At (aV Y (Ol.aY dk) z2 h2) W)=>Af (mh.out.is W hA).is qe.out.inv (by omega) qe.out.up tV.out)
      have tX:=qh (Fs.iL qe.out.inv.tbl tV.out)
      have hfl:=Fs.ck qe.out.inv qe.out.up
      have AV:=qh (show Ol.ay (Ol.aY dk)=(Fs.files (Ol.aY dk)).reverse.foldl Ol.aw (Ol.aY dk) from rfl)
      have GZ:=qh (Ol.cF mZ.out.inv bo.out.full)
      clear hlt hj ly
      generalize Ol.aY dk=de at*
      generalize Fs.files de=fs at*
      rw[←rW]
      (refine qw ?_;intros;rename_i hM)
      (refine qKx ?_;intro R hR)
      refine(dt.out _ (hM.part (Part.skip Part.all))).mono ?_
      rintro e w' ⟨s3,rfl,hok3,dI⟩
      replace hM:=hM.madeM dI (zo _ _ _ _)
      refine qho ?_;clear hR R dI dt
      obtain⟨ub,ud,dv,tY⟩:=zf hok3
      have lz:=qh hok3
      rw[dv]
      clear hok3 dv
      have hw0:IntKind.i64.wrap ((fs.length:Int) - 1)=(fs.length:Int) - 1:=Za _ (by omega)
      (refine qq ?_)
      (refine qw ?_;intros;rename_i hM)
      go_loopw [9,10] (fun i _ wr=> ∃ (j:Nat) (Q:bQ) (dj:FsD) (z3:List NodV) (h3:List ae),j≤fs.length∧i= .int .i64 ((j:Int) - 1)∧Q.f=Y.f∧Hid ((fs.drop j).reverse.foldl Ol.aw de=dj)∧Hid (dV w0.heap.size KB (N+3*k+3*(fs.length - j)) Q dj z3 h3)∧St w0 [xd] wr (Yy s3 fs++((xd,true,.cells [.pointer (some ⟨xn.f,0,none⟩),.pointer (some ⟨xb.f,0,none⟩),.slice va D.log.length vc] 72)::aV Q dj z3 h3))) (fun i _ _=>(intOf i+1).toNat)
      case atStart=>exact⟨fs.length,Y,de,z2,h2,by omega,rfl,rfl,qh (by rw[lcPz];rfl),qh ⟨fun W hA=>(mh.out.is W hA).more (by omega),mh.out.keys⟩,hM⟩
      case round=>
       clear hM
       obtain⟨j,Q,dj,z3,h3,hj,rfl,rX,ly,mL,hM⟩:=hrel
       have ny:Q.f=Y.f:=rX
       rcases j with _|m
       ·have e0:=ly.out
        rw[ldBz,←AV.out] at e0
        subst e0
        have qg:=qh dX.out
        replace hM:=hM.subM (laFz _ _)
        have G0:=qh (show Fs.af (Ol.ay de)=[] by
         have:=GZ.out
         unfold Fs.af at this ⊢
         rw[Ol.ey]
         exact this)
        clear ly hj AV dX
        generalize Ol.ay de=dz at*
        rw[←ny]
        (refine qw ?_;intros;rename_i hM)
        (refine qK3 (fun R hR=> ?_))
        rw[←HV.out] at hM
        have hQ:=mL.out
        rw[←AS.out] at hQ
        have qi:=GM HH.out hN hQ qg.out G0.out hM
        refine(Aq qi).mono ?_
        rintro e w' ⟨rfl,X',V',hto⟩
        have qk:=qh (GN HH.out hQ hM hto)
        have e3:Ol.sync ⟨dz,D.base,D.log⟩=Ol.cut D keep:=by unfold Ol.sync Ol.cut;rw[qg.out]
        rw[e3] at qk
        clear hM hto qi
        refine hR.out _ _ ?_
        clear hR R
        have hM:=St.start w' []
        (refine qq ?_)
        (refine qw ?_;intros;rename_i hM)
        (refine qf ?_)
        exact⟨rfl,X',V',qk.out.below hM.to_below⟩
       ·obtain⟨x,hx⟩:=zK (xs:=fs) (k:=m) (by omega)
        obtain⟨g3,lA,rfl⟩: ∃ g3 lA,s3=some (g3,lA):=by
         rcases s3 with _|⟨g3,lA⟩
         ·exact absurd lz.out.2 (by omega)
         ·exact⟨g3,lA,rfl⟩
        obtain⟨rfl,rfl⟩:=tY g3 lA rfl
        obtain⟨wI,hx1⟩:=GO hx
        have hxs:=tX.out x (laQz hx)
        have eU:=qh ((GP hx de).trans (congrArg (fun q=>Ol.aw q x) ly.out))
        have m0:(0:Int)≤(m:Int):=by omega
        have m1:(m:Int)<(fs.length:Int):=by omega
        have FE:IntKind.i64.wrap ((m:Int) - 1)=(m:Int) - 1:=Za _ (by omega)
        have e1:((m+1:Nat):Int) - 1=(m:Int):=by omega
        obtain⟨fp,fd,ft⟩:=x
        simp only at wI hx1 hxs
        have CU:=qh (fun W:World=>Gx fp ⟨#[114,117,110]⟩ W (by omega) (by decide))
        rw[show(⟨#[114,117,110]⟩:ByteArray)=Pt.run from rfl] at CU
        have eG:=eU.out
        unfold Ol.aw at eG
        simp only at eG
        have iS:=qh (fun (k:Int) (hk:Fits k) (W:World) (hA:At (aV Q dj z3 h3) W)=>Xg (mL.out.is W hA) (by omega) (show Fits 0 by decide) (gL k fp) ⟨by show fp.size≤_;omega,Nat.zero_le _,Nat.zero_le _⟩)
        clear hx eU
        rw[e1]
        simp only[slL,laIz,laJz] at hM
        cases hu:Pt.under fp Pt.run with
        |false=>
         rw[hu] at CU eG
         have HS3:=qh eG
         clear eG hu iS
         (refine qw ?_;intros;rename_i hM)
         (refine qKx ?_;intro R hR)
         refine(CU.out _).mono ?_
         ((refine qj ?_;clear hR R hM;intro w' hM))
         (refine qw ?_;intros;rename_i hM)
         (try simp only[Exit.then])
         (refine⟨?_,qio⟩;repeat(first|exact⟨⟨m,Q,_,z3,h3,by omega,rfl,rX,HS3,qh ⟨fun W hA=>(mL.out.is W hA).more (by omega),mL.out.keys⟩,hM⟩,rfl⟩|apply Exists.intro))
        |true=>
         rw[hu] at CU eG
         rw[if_pos rfl] at eG
         cases fd with
         |false=>
          rw[if_neg (by simp)] at eG
          have HS3:=qh eG
          have HD2:=qh (iS.out 11 (by decide))
          clear eG hu iS
          generalize Fs.do_ dj 0 (gL 11 fp)=G at*
          obtain⟨⟨er,n,da,ns⟩,d2⟩:=G
          simp only[gL,OpD.cells] at HD2
          rw[←ny]
          (refine qw ?_;intros;rename_i hM)
          (refine qKx ?_;intro R hR)
          refine(CU.out _).mono ?_
          ((refine qj ?_;clear hR R hM;intro w' hM))
          (refine qw ?_;intros;rename_i hM)
          (refine qKx ?_;intro R hR)
          refine(HD2.out _ (hM.part (Part.skip (Part.skip Part.all)))).mono ?_
          rintro e w' ⟨s,Q2,z4,h4,rfl,-,-,-,hto⟩
          have eF:=qh ((mL.out.to hto (by have:=hM.only.size;omega)))
          have nX:=hto.f
          replace hM:=hM.az (Swap.skip (Swap.skip Swap.all)) hto.st Zr hto.grow
          refine qho ?_;clear hR R HD2 hto mL
          (refine qq ?_)
          (refine qw ?_;intros;rename_i hM)
          (try simp only[Exit.then])
          rw[ny]
          (refine⟨?_,qio⟩;repeat(first|exact⟨⟨m,Q2,_,z4,h4,by omega,rfl,nX.trans rX,HS3,qh ⟨fun W hA=>(eF.out.is W hA).more (by omega),eF.out.keys⟩,hM⟩,rfl⟩|apply Exists.intro))
         |true=>
          rw[if_pos rfl] at eG
          have HS3:=qh eG
          have HD2:=qh (iS.out 2 (by decide))
          clear eG hu iS
          generalize Fs.do_ dj 0 (gL 2 fp)=G at*
          obtain⟨⟨er,n,da,ns⟩,d2⟩:=G
          simp only[gL,OpD.cells] at HD2
          rw[←ny]
          (refine qw ?_;intros;rename_i hM)
          (refine qKx ?_;intro R hR)
          refine(CU.out _).mono ?_
          ((refine qj ?_;clear hR R hM;intro w' hM))
          (refine qw ?_;intros;rename_i hM)
          (refine qKx ?_;intro R hR)
          refine(HD2.out _ (hM.part (Part.skip (Part.skip Part.all)))).mono ?_
          rintro e w' ⟨s,Q2,z4,h4,rfl,-,-,-,hto⟩
          have eF:=qh ((mL.out.to hto (by have:=hM.only.size;omega)))
          have nX:=hto.f
          replace hM:=hM.az (Swap.skip (Swap.skip Swap.all)) hto.st Zr hto.grow
          refine qho ?_;clear hR R HD2 hto mL
          (refine qq ?_)
          (refine qw ?_;intros;rename_i hM)
          (try simp only[Exit.then])
          rw[ny]
          (refine⟨?_,qio⟩;repeat(first|exact⟨⟨m,Q2,_,z4,h4,by omega,rfl,nX.trans rX,HS3,qh ⟨fun W hA=>(eF.out.is W hA).more (by omega),eF.out.keys⟩,hM⟩,rfl⟩|apply Exists.intro)))
end
end
section
open Go.RowKit Go.Maps
namespace Wd
variable {N:Nat}{W:aB}
theorem ko(h:Inv N W){o:Int}(ho:Fits o):Inv (N+3) ⟨Ol.exit W.d o,W.p⟩:=⟨Ol.bP h.aG ho,h.fit,Ol.gx h.gd,fun q hq=>h.own q (Ol.dP hq),by have:=h.last;show W.p.last≤_;omega⟩
theorem nY(h:Inv N W):Inv N ⟨W.d,Pc.bU W.p⟩:=⟨h.aG,Pc.eW h.fit,h.gd,h.own,h.last⟩
end Wd
section
variable {w w' w0 w1 w2:World}{X X':km}{W W':aB}{V V':fh}{N M:Nat}{F F':List Nat}{L:List Ent}
theorem G1(h:bE N X W V w0)(hN:N≤30000)(pid:Int):Calls Tryz.prog 98 #[.pointer (some ⟨X.w,0,none⟩),.int .i64 pid] w0 fun e w'=>e= .returned (.int .i64 (Wd.kill W pid).1)∧ ∃ X' V',bC (N+3) X W V X' (Wd.kill W pid).2 V' w0 w':=by
 have hM:=St.start w0 []
 have c0:w0.cell? ⟨X.w,0,none⟩=some (.pointer (some ⟨X.d.d,0,none⟩)):=h.row 0 _ rfl
 have c1:w0.cell? ⟨X.w,1,none⟩=some (.pointer (some ⟨X.p.t,0,none⟩)):=h.row 1 _ rfl
 have HB:=qh (fun (U:World) (hb:Below w0.heap.size w0 U)=>Yh (h.below hb).bV pid)
 have HH:=qh h
 have rY:=qh (Wd.fT h.inv (by omega) pid)
 unfold Pc.bd at HB
 unfold Wd.kill at*
 by_cases h0:Pc.birth W.p.aa pid=0
 ·rw[h0] at HB
  rw[if_pos h0] at rY ⊢
  rw[if_pos rfl] at HB
  clear h h0
  go_enter Tryz.func98,Tryz.ntmps98
  (refine qw ?_;intros;rename_i hM)
  (refine qCB (HB.out _ hM.to_below) hM ?_;clear hM;intro w' hM)
  (refine qw ?_;intros;rename_i hM)
  (refine qf ?_)
  exact⟨rfl,X,V,((bC.refl HH.out).below hM.to_below).more (by omega)⟩
 ·have lB:=Wd.br h.inv (by omega) pid
  rw[if_neg h0] at rY HB ⊢
  have G2:=qh (Wd.ko h.inv lB)
  have HEX:=qh (fun (U:World) (hb:Below w0.heap.size w0 U)=>Gc (h.below hb).aG (by omega) lB)
  have tZ:Pc.kill W.p pid=(0,⟨Pc.del W.p.aa pid,W.p.last⟩):=if_neg h0
  have jU:=qh (Pc.iK h.inv.fit pid)
  rw[tZ] at rY jU ⊢
  have pr:=qh tZ
  clear h h0 lB tZ
  generalize ql:Pc.birth W.p.aa pid=b at*
  clear ql
  go_enter Tryz.func98,Tryz.ntmps98
  (refine qw ?_;intros;rename_i hM)
  (refine qCB (HB.out _ hM.to_below) hM ?_;clear hM;intro w' hM)
  (refine qw ?_;intros;rename_i hM)
  (refine qK3 (fun R hR=> ?_))
  refine(HEX.out _ hM.to_below).mono ?_
  rintro e w' ⟨rfl,Y',V',hto⟩
  have ht1:=((bC.refl HH.out).below hM.to_below).trans ((HH.out.below hM.to_below).jx hto G2.out)
  refine hR.out _ _ ?_;clear hR R hto hM
  have HT1:=qh ht1
  have hM:=St.start w' []
  have c2:w'.cell? ⟨X.w,1,none⟩=some (.pointer (some ⟨X.p.t,0,none⟩)):=HT1.out.is.row 1 _ rfl
  have G3:=qh (fun (U:World) (hb:Below w'.heap.size w' U)=>(show Calls Tryz.prog _ _ U _ from Gu (HT1.out.is.below hb).bV pid))
  clear ht1
  (refine qq ?_)
  (refine qw ?_;intros;rename_i hM)
  (refine qK3 (fun R hR=> ?_))
  refine(G3.out _ hM.to_below).mono ?_
  rintro e w2 ⟨rfl,hto⟩
  rw[pr.out] at hto
  obtain⟨p',ht2⟩:=(HT1.out.is.below hM.to_below).lx hto jU.out (Nat.le_refl _) rY.out
  have HT2:=qh ((HT1.out.below hM.to_below).trans ht2)
  refine hR.out _ _ ?_;clear hR R hto hM ht2
  have hM:=St.start w2 []
  rw[pr.out]
  (refine qq ?_)
  (refine qw ?_;intros;rename_i hM)
  (refine qf ?_)
  exact⟨rfl,_,_,HT2.out.below hM.to_below⟩
theorem G4(h:bE N X W V w0)(hN:N≤30000)(keep:Int):Calls Tryz.prog 99 #[.pointer (some ⟨X.w,0,none⟩),.int .i64 keep] w0 fun e w'=>e= .returned (.tuple #[])∧ ∃ X' V',bC N X W V X' (Wd.fS W keep) V' w0 w':=by
 have hM:=h.bV.tJ
 have c0:w0.cell? ⟨X.w,0,none⟩=some (.pointer (some ⟨X.d.d,0,none⟩)):=h.row 0 _ rfl
 have c1:w0.cell? ⟨X.w,1,none⟩=some (.pointer (some ⟨X.p.t,0,none⟩)):=h.row 1 _ rfl
 have Jj:X.w∉[X.p.t]:=fun hm=>h.one.2 (by rw[laGz.1 hm];exact .head _)
 have HH:=qh h
 have G5:=qh (Wd.eE h.inv (by omega) keep)
 have AW:=qh (Wd.nY h.inv)
 obtain⟨va,vc,hv,-⟩:=zf h.bV.ok
 rw[hv] at hM
 clear h hv
 go_enter Tryz.func99,Tryz.ntmps99
 (refine qw ?_;intros;rename_i hM)
 rename World=>w
 (refine qK3 (fun R hR=> ?_))
 have hto:kj X.p W.p (Pc.bU W.p) w0 w:=St.me (X':=⟨X.p.t,none⟩) hM rfl ⟨rfl,rfl⟩
 obtain⟨p',ht1⟩:=HH.out.lx hto AW.out.fit (Nat.le_refl _) AW.out
 refine(GQ ht1.is.aG hN keep).mono ?_
 rintro e w' ⟨rfl,Y',V',qn⟩
 have HT:=qh (ht1.trans (ht1.is.jx qn G5.out))
 refine hR.out _ _ ?_;clear hR R hto qn hM ht1
 have hM:=St.start w' []
 (refine qq ?_)
 (refine qw ?_;intros;rename_i hM)
 (refine qf ?_)
 exact⟨rfl,_,_,HT.out.below hM.to_below⟩
theorem G6(qt:Int)(h0:64≤qt)(h1:qt≤1099511627776)(w0:World):Calls Tryz.prog 52 #[.int .i64 qt] w0 fun e w'=> ∃ X V,e= .returned (.tuple #[.pointer (some ⟨X.w,0,none⟩),.int .i64 0])∧bE 1 X (Wd.new qt) V w'∧Below w0.heap.size w0 w'∧ ∀ k∈fi X (Wd.new qt) V,w0.heap.size≤k:=by
 have hM:=St.start w0 []
 have HN:=qh (fun U=>Ga qt h0 h1 U)
 have HI:=qh (Wd.inv_new h0 h1)
 clear h0 h1
 go_enter Tryz.func52,Tryz.ntmps52
 (repeat(first|(refine qW ?_;intros;rename_i hM)|(refine qMk ?_;clear hM;intro w bk hM)))
 (refine qK3 (fun R hR=> ?_))
 refine(HN.out _).mono ?_
 rintro e w' ⟨Y,V,rfl,hrd,hb,hfr⟩
 have HFR:=qh (show ∀ k∈f_ Y (Ol.new qt) V,w0.heap.size≤k from fun k hk=>Nat.le_trans hM.only.size (hfr k hk))
 have t_:=qh hrd
 have HO:=qh ((hM.below hb).only)
 refine hR.out _ _ ?_;clear hR R hfr hrd hb hM
 have hM:=St.start w' []
 (refine qq ?_)
 try(refine qW ?_;clear hM;intros;rename_i hM)
 ((refine qMk ?_);clear hM;intro w qo hM)
 (repeat(first|(refine qW ?_;intros;rename_i hM)|(refine qMk ?_;clear hM;intro w bk hM)))
 (refine qf ?_)
 have hbk:=(hM.own _ (.head _) rfl).resolve_left nofun
 have rF:=(hM.own _ (.tail _ (.head _)) rfl).resolve_left nofun
 have hnd:=hM.nd
 have hsz:=HO.out.size
 have hD:=t_.out.only hM.only (fun _ _=>nofun)
 have hr:=Res.range (q:=0) (n:=2) (hM.holds _ (.head _)) (Nat.le_refl _)
 refine⟨⟨bk,Y,⟨qo,none⟩⟩,V,rfl,⟨hr,hD,⟨hM.forget.whole,⟨rfl,rfl⟩,Pc.jS⟩,HI.out,fun k hk hm=> ?_,fun hm=> ?_,fun hm=> ?_⟩,(HO.out.trans hM.only).to_below (Nat.le_refl _) nofun,fun k hk=> ?_⟩
 ·have h1:=t_.out.lt k hm
  rcases laBz.1 hk with rfl|hk
  ·exact absurd rF (by omega)
  ·cases hk
 ·have h1:=t_.out.lt _ hm
  exact absurd hbk (by simp only at h1 ⊢;omega)
 ·rcases laBz.1 hm with h1|h1
  ·exact(laTz.1 hnd).1 (by rw[show bk=qo from h1];exact .head _)
  ·cases h1
 ·unfold fi at hk
  rcases laBz.1 hk with rfl|hk
  ·exact Nat.le_trans hsz hbk
  ·rcases laAz.1 hk with hk|hk
   ·exact HFR.out k hk
   ·rcases laBz.1 hk with rfl|hk
    ·exact Nat.le_trans hsz rF
    ·cases hk
theorem G7(qt:Int)(h:qt<64∨1099511627776<qt)(w0:World):An 52 #[.int .i64 qt] w0 (.tuple #[.pointer none,.int .i64 1]):=by
 have hM:=St.start w0 []
 have HN:=qh (fun U=>Gb qt h U)
 clear h
 go_enter Tryz.func52,Tryz.ntmps52
 (refine qw ?_;intros;rename_i hM)
 (refine qCB (HN.out _) hM ?_;clear hM;intro w' hM)
 exact qwf
end
end
section
open Go.RowKit Go.Maps
section
variable {w:World}{s s1 s2:Option (Nat×Nat)}{xs:List ah}
theorem AX{g cap:Nat}(hA:At (Yy (some (g,cap)) xs) w){k:Nat}{f:ah}(hf:xs[k]? =some f):w.rangeAt g (k*3) [.string f.path,.bool f.dir,.string f.data]:=by
 have hk:=(laHz.1 hf).1
 have:=Res.range (q:=k*3) (n:=3) (hA.has (g,true,.pre (xs.flatMap ah.cells) 112 (cap*3)) (.head _)) (by show k*3+3≤(xs.flatMap ah.cells).length;rw[yr];omega)
 rw[show(Res.pre (xs.flatMap ah.cells) 112 (cap*3)).known=xs.flatMap ah.cells from rfl,pN hf] at this
 exact this
theorem G8(hk1:YF s1 xs)(hk2:YF s2 xs)(hl:xs.length≤1000000)(hA1:At (Yy s1 xs) w)(jO:At (Yy s2 xs) w):
  An 32 #[slV s1 xs.length,slV s2 xs.length] w (.bool true):=by
 have hM:=St.start w []
 obtain⟨a1,c1,gS,l8⟩:=zf hk1
 obtain⟨a2,c2,eh,l9⟩:=zf hk2
 rw[gS,eh]
 have H1:=qh hA1
 have H2:=qh jO
 have K1:=qh hk1
 have K2:=qh hk2
 clear hk1 hk2 hA1 jO gS eh
 go_enter Tryz.func32,Tryz.ntmps32
 (refine qw ?_;intros;rename_i hM)
 go_loopw [5] (fun i wr=> ∃ k:Nat,k≤xs.length∧i= .int .i64 k∧St w [] wr []) (fun i _=>xs.length - (intOf i).toNat)
 case atStart=>exact⟨0,by omega,rfl,hM⟩
 case round=>
  clear hM
  obtain⟨k,hk,rfl,hM⟩:=hrel
  by_cases hlt:k<xs.length
  ·obtain⟨f,hf⟩:=zK hlt
   rcases s1 with _|⟨g1,cap1⟩
   ·exact absurd K1.out.2 (by omega)
   rcases s2 with _|⟨g2,cap2⟩
   ·exact absurd K2.out.2 (by omega)
   obtain⟨rfl,rfl⟩:=l8 g1 cap1 rfl
   obtain⟨rfl,rfl⟩:=l9 g2 cap2 rfl
   have r1:=AX H1.out hf
   have r2:=AX H2.out hf
   have k1:(k:Int)<(xs.length:Int):=by omega
   clear hf
   obtain⟨fp,fd,ft⟩:=f
   simp only at r1 r2
   (refine qw ?_;intros;rename_i hM)
   simp only[Exit.then]
   (refine⟨?_,qio⟩;repeat(first|exact⟨⟨k+1,by omega,rfl,hM⟩,rfl⟩|apply Exists.intro))
  ·have k0:¬((k:Int)<(xs.length:Int)):=by omega
   clear hlt hk
   exact qwf
end
end
section
open Go.RowKit Go.Maps
theorem nZ{w:World}{b q:Nat}{es:List Value}(h: ∀ j,j<es.length→w.cell? ⟨b,q+j,none⟩=es[j]?):w.rangeAt b q es:=fun j v hj=>by
 rw[h j (laHz.1 hj).1,hj]
structure bY (x:ActF):Prop where
 path:x.op.path.size≤200
 dest:x.op.dest.size≤200
 data:x.op.data.size≤200
theorem XM.get{w:World}{a:Option Addr}{n:Nat}{xs:List ActF}(h:XM w a n xs){k:Nat}{x:ActF}(hk:xs[k]? =some x):
  x.Fit∧ ∃ b off,a=some ⟨b,off,none⟩∧w.rangeAt b (off+k*11) x.cells∧w.rangeAt b (off+k*11+2) x.op.cells:=by
 obtain⟨-,-,h3⟩:=h
 obtain⟨hf,b,off,rfl,hc⟩:=h3 k x hk
 refine⟨hf,b,off,rfl,nZ fun j hj=>hc j hj,nZ fun j hj=> ?_⟩
 have:=hc (j+2) (by have:x.op.cells.length=9:=rfl;omega)
 rw[show off+k*11+(j+2)=off+k*11+2+j by omega] at this
 rw[this]
 rfl
theorem ActF.len{xs:List ActF}{w:World}{a:Option Addr}{n:Nat}(h:XM w a n xs):n=xs.length:=h.1
theorem G9{w:World}{a:Option Addr}{n c:Nat}{xs:List ActF}(dJ:Int)(lW:0≤dJ)(hm1:dJ≤1000)(h:XM w a n xs):
  Calls Tryz.prog 14 #[.slice a n c,.int .i64 dJ] w fun e w'=> ∃ b:Bool,e= .returned (.bool b)∧(b=true→(xs.length:Int)≤dJ∧ ∀ (j:Nat) (y:ActF),xs[j]? =some y→bY y)∧Below w.heap.size w w':=by
 have hM:=St.start w []
 have HX:=qh h
 obtain⟨rfl,hn,-⟩:=h
 rw[zj] at hn
 go_enter Tryz.func14,Tryz.ntmps14
 (refine qw ?_;intros;rename_i hM)
 go_loopw [5] (fun i wr=> ∃ k:Nat,k≤xs.length∧(k:Int)≤dJ∧i= .int .i64 k∧Hid (∀ (j:Nat) (y:ActF),j<k→xs[j]? =some y→bY y)∧St w [] wr []) (fun i _=>xs.length - (intOf i).toNat)
 case atStart=>exact⟨0,by omega,lW,rfl,qh (fun j y hj=>absurd hj (by omega)),hM⟩
 case round=>
  clear hM
  obtain⟨k,hk,nH,rfl,HS,hM⟩:=hrel
  by_cases hlt:k<xs.length
  ·have k1:(k:Int)<(xs.length:Int):=by omega
   by_cases hlm:(k:Int)<dJ
   ·obtain⟨x,mz⟩:=zK hlt
    obtain⟨hf,b,off,rfl,-,hc⟩:=HX.out.get mz
    have HN:=qh (fun (hs:bY x)=>(show ∀ (j:Nat) (y:ActF),j<k+1→xs[j]? =some y→bY y from fun j y hj hy=>by
     rcases Nat.lt_or_ge j k with h|h
     ·exact HS.out j y h hy
     ·obtain rfl:j=k:=by omega
      rw[mz] at hy;cases hy;exact hs))
    clear mz
    obtain⟨xo,xe,⟨pk,pp,pd,ph,pa,pn,px,py,pb⟩⟩:=x
    simp only[OpD.cells] at hc
    have pT:=hf.op.path
    have hpd:=hf.op.dest
    have AY:=hf.op.data
    rw[zj] at pT hpd AY
    simp only at pT hpd AY
    clear hf
    by_cases q1:(200:Int)<(pp.size:Int)
    ·(refine qw ?_;intros;rename_i hM)
     (refine qf ?_)
     exact⟨false,rfl,nofun,hM.to_below⟩
    by_cases q2:(200:Int)<(pd.size:Int)
    ·(refine qw ?_;intros;rename_i hM)
     (refine qf ?_)
     exact⟨false,rfl,nofun,hM.to_below⟩
    by_cases q3:(200:Int)<(px.size:Int)
    ·(refine qw ?_;intros;rename_i hM)
     (refine qf ?_)
     exact⟨false,rfl,nofun,hM.to_below⟩
    have HN':=qh (HN.out ⟨by show pp.size≤200;omega,by show pd.size≤200;omega,by show px.size≤200;omega⟩)
    clear HN
    by_cases q4:(4096:Int)<pa
    ·by_cases q5:pa≤1048576
     ·(refine qw ?_;intros;rename_i hM)
      (refine qf ?_)
      exact⟨false,rfl,nofun,hM.to_below⟩
     ·by_cases q6:(4096:Int)<pn
      ·by_cases q7:pn≤1048576
       ·(refine qw ?_;intros;rename_i hM)
        (refine qf ?_)
        exact⟨false,rfl,nofun,hM.to_below⟩
       ·(refine qw ?_;intros;rename_i hM)
        replace hM:=hM.drop (L':=[]) nofun (by simp)
        (refine⟨?_,qio⟩;repeat(first|exact⟨⟨k+1,by omega,by omega,rfl,HN',hM⟩,rfl⟩|apply Exists.intro))
      ·(refine qw ?_;intros;rename_i hM)
       replace hM:=hM.drop (L':=[]) nofun (by simp)
       (refine⟨?_,qio⟩;repeat(first|exact⟨⟨k+1,by omega,by omega,rfl,HN',hM⟩,rfl⟩|apply Exists.intro))
    ·by_cases q6:(4096:Int)<pn
     ·by_cases q7:pn≤1048576
      ·(refine qw ?_;intros;rename_i hM)
       (refine qf ?_)
       exact⟨false,rfl,nofun,hM.to_below⟩
      ·(refine qw ?_;intros;rename_i hM)
       replace hM:=hM.drop (L':=[]) nofun (by simp)
       (refine⟨?_,qio⟩;repeat(first|exact⟨⟨k+1,by omega,by omega,rfl,HN',hM⟩,rfl⟩|apply Exists.intro))
     ·(refine qw ?_;intros;rename_i hM)
      replace hM:=hM.drop (L':=[]) nofun (by simp)
      (refine⟨?_,qio⟩;repeat(first|exact⟨⟨k+1,by omega,by omega,rfl,HN',hM⟩,rfl⟩|apply Exists.intro))
   ·have k2:¬(xs.length:Int)≤dJ:=by omega
    (refine qw ?_;intros;rename_i hM)
    (refine qf ?_)
    exact⟨false,rfl,nofun,hM.to_below⟩
  ·have k0:¬((k:Int)<(xs.length:Int)):=by omega
   obtain rfl:k=xs.length:=by omega
   clear hlt hk
   (refine qw ?_;intros;rename_i hM)
   (refine qf ?_)
   exact⟨true,rfl,fun _=>⟨nH,fun j y hy=>HS.out j y (laHz.1 hy).1 hy⟩,hM.to_below⟩
theorem G_{w0 w:World}{F:List Nat}{L:List Ent}{b:Nat}{ow:Bool}{t:TypeId}{x:ActF}(hM:St w0 F w L)(hm:(b,ow,Res.cells x.cells t)∈L)(hf:x.Fit):XM w (some ⟨b,0,none⟩) 1 [x]:=by
 refine⟨rfl,by unfold maxLen;omega,fun k y hk=> ?_⟩
 obtain⟨rfl,rfl⟩:k=0∧y=x:=by
  rcases k with _|k
  ·exact⟨rfl,by simpa using hk.symm⟩
  ·simp at hk
 refine⟨hf,b,0,rfl,fun j hj=> ?_⟩
 have hs:y.cells[j]? =some y.cells[j]:=laRz (show j<11 from hj)
 rw[hs,show 0+0*11+j=j by omega]
 exact Res.cell (hM.holds _ hm) hs
end
end Go.Proofs.YtcicjklhbnipcaaGreatDoor
