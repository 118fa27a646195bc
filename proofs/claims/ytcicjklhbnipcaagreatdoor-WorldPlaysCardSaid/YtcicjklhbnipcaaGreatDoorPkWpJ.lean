/-
  Laid texts.
-/
import Derived.Test.YtcicjklhbnipcaaGreatDoorPkWpI
set_option maxHeartbeats 16000000
set_option maxRecDepth 1000000
set_option linter.unusedVariables false
set_option linter.unusedSimpArgs false
namespace Go.Proofs.YtcicjklhbnipcaaGreatDoor
section
open Go.RowKit Go.Maps
section
variable {w w' w0 w1 w2:World}{X X1 X':bQ}{t t1 t':TabD}{zs fV zs':List NodV}{hs hs1 hs':List ae}{N:Nat}{F:List Nat}{L:List Ent}
theorem pD(h:av X t zs hs w0)(I:In.Inv N t)(hN:N≤899990)(hl:hs.length≤900000)(o:Int)(p:OpD)(hp:ai p.path)(hd:ai p.dest)(hz:p.data.size≤1000000000)(hr:Hs.right p=true)(hk:p.kind=1∨p.kind=2∨p.kind=10∨p.kind=11∨p.kind=12)(hc:(Hs.place t p.path).2.2≠0):Calls Tryz.prog 87 #[.pointer (some ⟨X.f,0,none⟩),.int .i64 o,.agg p.cells.toArray] w0 (yv X t zs hs w0 (Hs.aO t hs o p)):=by
 rcases hk with hk|hk|hk|hk|hk
 all_goals as_aux_lemma=>
  obtain⟨xf,g,xs,xh,va,vc,rfl,hv,hM,bo,cN,cM,HB⟩:=ZF h
  have HV:=qh hv
  have HK:=qh h.hok
  have HL:=qh h.hlen
  have bN:=qh (fun (W:World)=>zZ p hp hd W)
  have cR:=qh (fun (W:World) hA=>zT (bo.out W hA) I (by omega) p.path hp.size hp.few hp.each)
  obtain⟨R,hR0⟩: ∃ R,Hs.aO t hs o p=R:=⟨_,rfl⟩
  rw[hR0]
  unfold Hs.aO at hR0
  rw[hr] at bN hR0
  rw[if_neg (by simp),if_neg (by omega),if_neg (by omega),if_pos hc] at hR0
  have HR0:=qh hR0
  clear hR0
  obtain⟨kind,path,dest,hh,at_,n,data,pid,birth⟩:=p
  simp only at*
  unfold OpD.cells at*
  simp only at*
  subst hk
  generalize (Hs.place t path).2.2=c at*
  generalize (Hs.place t path).2.1=nm at*
  generalize (Hs.place t path).1=pd at*
  have q1:(c != 0)=true:=bne_iff_ne.2 hc
  clear h I hv hr hp hd hz hl hc
  go_enter Tryz.func87,Tryz.ntmps87
  (refine qw ?_;intros;rename_i hM)
  (refine qCB (bN.out _) hM ?_;clear hM;intro w' hM)
  (refine qw ?_;intros;rename_i hM)
  (refine qCB (cR.out _ (hM.part (Part.skip (Part.skip Part.all)))) hM ?_;clear hM;intro w' hM)
  (refine qw ?_;intros;rename_i hM)
  (refine qf ?_)
  rw[←HR0.out]
  exact⟨rfl,HB.out _ hM.forget.forget⟩
theorem vx(h:av X t zs hs w0)(I:In.Inv N t)(hN:N≤899990)(hl:hs.length≤900000)(o:Int)(p:OpD)(hp:ai p.path)(hd:ai p.dest)(hz:p.data.size≤1000000000)(hr:Hs.right p=true)(hk:p.kind=3∨p.kind=4)(h8:¬8≤Hs.many hs o)(hc:(Hs.place t p.path).2.2≠0):Calls Tryz.prog 87 #[.pointer (some ⟨X.f,0,none⟩),.int .i64 o,.agg p.cells.toArray] w0 (yv X t zs hs w0 (Hs.aO t hs o p)):=by
 rcases hk with hk|hk
 all_goals as_aux_lemma=>
  obtain⟨xf,g,xs,xh,va,vc,rfl,hv,hM,bo,cN,cM,HB⟩:=ZF h
  have HV:=qh hv
  have HK:=qh h.hok
  have HL:=qh h.hlen
  have bN:=qh (fun (W:World)=>zZ p hp hd W)
  have cR:=qh (fun (W:World) hA=>zT (bo.out W hA) I (by omega) p.path hp.size hp.few hp.each)
  have kQ:=qh (fun (W:World) hA=>Yb (bo.out W hA) o)
  obtain⟨R,hR0⟩: ∃ R,Hs.aO t hs o p=R:=⟨_,rfl⟩
  rw[hR0]
  unfold Hs.aO at hR0
  rw[hr] at bN hR0
  rw[if_neg (by simp),if_neg (by omega),if_neg (fun hc=>by have:=hc.2;omega),if_pos hc] at hR0
  have HR0:=qh hR0
  clear hR0
  obtain⟨kind,path,dest,hh,at_,n,data,pid,birth⟩:=p
  simp only at*
  unfold OpD.cells at*
  simp only at*
  subst hk
  generalize (Hs.place t path).2.2=c at*
  generalize (Hs.place t path).2.1=nm at*
  generalize (Hs.place t path).1=pd at*
  generalize Hs.many hs o=m at*
  have m8:¬((8:Int)≤(m:Int)):=by omega
  clear h8
  have q1:(c != 0)=true:=bne_iff_ne.2 hc
  clear h I hv hr hp hd hz hl hc
  go_enter Tryz.func87,Tryz.ntmps87
  (refine qw ?_;intros;rename_i hM)
  (refine qCB (bN.out _) hM ?_;clear hM;intro w' hM)
  (refine qw ?_;intros;rename_i hM)
  (refine qCB (kQ.out _ (hM.part (Part.skip (Part.skip Part.all)))) hM ?_;clear hM;intro w' hM)
  (refine qw ?_;intros;rename_i hM)
  (refine qCB (cR.out _ (hM.part (Part.skip (Part.skip Part.all)))) hM ?_;clear hM;intro w' hM)
  (refine qw ?_;intros;rename_i hM)
  (refine qf ?_)
  rw[←HR0.out]
  exact⟨rfl,HB.out _ hM.forget.forget⟩
theorem Di(h:av X t zs hs w0)(I:In.Inv N t)(hN:N≤899990)(hl:hs.length≤900000)(o:Int)(p:OpD)(hp:ai p.path)(hd:ai p.dest)(hz:p.data.size≤1000000000)(hr:Hs.right p=true)(hk:p.kind=1)(hc:(Hs.place t p.path).2.2=0):Calls Tryz.prog 87 #[.pointer (some ⟨X.f,0,none⟩),.int .i64 o,.agg p.cells.toArray] w0 (yv X t zs hs w0 (Hs.aO t hs o p)):=by
 obtain⟨xf,g,xs,xh,va,vc,rfl,hv,hM,bo,cN,cM,HB⟩:=ZF h
 have HV:=qh hv
 have HK:=qh h.hok
 have HL:=qh h.hlen
 have bN:=qh (fun (W:World)=>zZ p hp hd W)
 have cR:=qh (fun (W:World) hA=>zT (bo.out W hA) I (by omega) p.path hp.size hp.few hp.each)
 have hps:=Zc hp t
 have HC:=qh (fun (W:World) (hA:At (rL ⟨g,xs⟩ t.quota (t.last+1) zs) W)=>si (cN.out W hA) I (by omega) (Hs.place t p.path).1 (Hs.place t p.path).2.1 true hps)
 obtain⟨R,hR0⟩: ∃ R,Hs.aO t hs o p=R:=⟨_,rfl⟩
 rw[hR0]
 unfold Hs.aO at hR0
 rw[hr] at bN hR0
 rw[if_neg (by simp),if_neg (by omega),if_neg (by omega),if_neg (fun he=>he hc)] at hR0
 rw[C7 hk] at hR0
 have HR0:=qh hR0
 clear hR0
 rw[hc] at cR
 generalize In.make t (Hs.place t p.path).1 (Hs.place t p.path).2.1 true=M at*
 obtain⟨kind,path,dest,hh,at_,n,data,pid,birth⟩:=p
 simp only at*
 unfold OpD.cells at*
 simp only at*
 subst hk
 generalize (Hs.place t path).2.1=nm at*
 generalize (Hs.place t path).1=pd at*
 clear h I hv hr hp hd hz hl hc hps
 go_enter Tryz.func87,Tryz.ntmps87
 (refine qw ?_;intros;rename_i hM)
 (refine qCB (bN.out _) hM ?_;clear hM;intro w' hM)
 (refine qw ?_;intros;rename_i hM)
 (refine qCB (cR.out _ (hM.part (Part.skip (Part.skip Part.all)))) hM ?_;clear hM;intro w' hM)
 (refine qw ?_;intros;rename_i hM)
 (refine qKx ?_;intro R hR)
 refine(HC.out _ (hM.part (Part.skip (Part.skip (Part.skip (Part.past Part.all)))))).mono ?_
 rintro e w' ⟨rfl,s2,aF,aZ,hto⟩
 have ff:=qh (Grow.trans (fun k hk=> .inl (cM.out k hk)) hto.grow hM.only.size:Grow w0 (ze (bw ⟨xf,⟨g,xs⟩,xh⟩ t.quota (t.last+1) zs hs)) _)
 replace hM:=hM.az (Swap.skip (Swap.skip (Swap.skip (Swap.past Swap.all)))) hto.st Yg hto.grow
 refine qho ?_
 clear hR R
 have HZ:=qh (And.intro hto.raw.sl (And.intro hto.raw.names (And.intro hto.raw.len aZ)))
 clear hto aZ HC
 (refine qq ?_)
 (refine qw ?_;intros;rename_i hM)
 (refine qf ?_)
 rw[←HR0.out]
 refine⟨rfl,⟨xf,⟨g,s2⟩,xh⟩,aF,St.dC ?_ rfl rfl HZ.out.1 HZ.out.2.1 HZ.out.2.2.1 HZ.out.2.2.2 HK.out HL.out ff.out⟩
 rw[zP (X:=⟨xf,⟨g,s2⟩,xh⟩) HV.out]
 exact hM.forget.forget
theorem Dj(h:av X t zs hs w0)(I:In.Inv N t)(hN:N≤899990)(hl:hs.length≤900000)(o:Int)(p:OpD)(hp:ai p.path)(hd:ai p.dest)(hz:p.data.size≤1000000000)(hr:Hs.right p=true)(hk:p.kind=2)(hc:(Hs.place t p.path).2.2=0):Calls Tryz.prog 87 #[.pointer (some ⟨X.f,0,none⟩),.int .i64 o,.agg p.cells.toArray] w0 (yv X t zs hs w0 (Hs.aO t hs o p)):=by
 obtain⟨xf,g,xs,xh,va,vc,rfl,hv,hM,bo,cN,cM,HB⟩:=ZF h
 have HV:=qh hv
 have HK:=qh h.hok
 have HL:=qh h.hlen
 have bN:=qh (fun (W:World)=>zZ p hp hd W)
 have cR:=qh (fun (W:World) hA=>zT (bo.out W hA) I (by omega) p.path hp.size hp.few hp.each)
 have hps:=Zc hp t
 have HC:=qh (fun (W:World) (hA:At (rL ⟨g,xs⟩ t.quota (t.last+1) zs) W)=>BC (cN.out W hA) I (by omega) (Hs.place t p.path).1 (Hs.place t p.path).2.1 hps)
 obtain⟨R,hR0⟩: ∃ R,Hs.aO t hs o p=R:=⟨_,rfl⟩
 rw[hR0]
 unfold Hs.aO at hR0
 rw[hr] at bN hR0
 rw[if_neg (by simp),if_neg (by omega),if_neg (by omega),if_neg (fun he=>he hc)] at hR0
 rw[C8 hk] at hR0
 have HR0:=qh hR0
 clear hR0
 rw[hc] at cR
 generalize In.remove t (Hs.place t p.path).1 (Hs.place t p.path).2.1=M at*
 obtain⟨kind,path,dest,hh,at_,n,data,pid,birth⟩:=p
 simp only at*
 unfold OpD.cells at*
 simp only at*
 subst hk
 generalize (Hs.place t path).2.1=nm at*
 generalize (Hs.place t path).1=pd at*
 clear h I hv hr hp hd hz hl hc hps
 go_enter Tryz.func87,Tryz.ntmps87
 (refine qw ?_;intros;rename_i hM)
 (refine qCB (bN.out _) hM ?_;clear hM;intro w' hM)
 (refine qw ?_;intros;rename_i hM)
 (refine qCB (cR.out _ (hM.part (Part.skip (Part.skip Part.all)))) hM ?_;clear hM;intro w' hM)
 (refine qw ?_;intros;rename_i hM)
 (refine qKx ?_;intro R hR)
 refine(HC.out _ (hM.part (Part.skip (Part.skip (Part.skip (Part.past Part.all)))))).mono ?_
 rintro e w' ⟨rfl,s2,aF,aZ,hto⟩
 have ff:=qh (Grow.trans (fun k hk=> .inl (cM.out k hk)) hto.grow hM.only.size:Grow w0 (ze (bw ⟨xf,⟨g,xs⟩,xh⟩ t.quota (t.last+1) zs hs)) _)
 replace hM:=hM.az (Swap.skip (Swap.skip (Swap.skip (Swap.past Swap.all)))) hto.st Yg hto.grow
 refine qho ?_
 clear hR R
 have HZ:=qh (And.intro hto.raw.sl (And.intro hto.raw.names (And.intro hto.raw.len aZ)))
 clear hto aZ HC
 (refine qq ?_)
 (refine qw ?_;intros;rename_i hM)
 (refine qf ?_)
 rw[←HR0.out]
 refine⟨rfl,⟨xf,⟨g,s2⟩,xh⟩,aF,St.dC ?_ rfl rfl HZ.out.1 HZ.out.2.1 HZ.out.2.2.1 HZ.out.2.2.2 HK.out HL.out ff.out⟩
 rw[zP (X:=⟨xf,⟨g,s2⟩,xh⟩) HV.out]
 exact hM.forget.forget
theorem Dk(h:av X t zs hs w0)(I:In.Inv N t)(hN:N≤899990)(hl:hs.length≤900000)(o:Int)(p:OpD)(hp:ai p.path)(hd:ai p.dest)(hz:p.data.size≤1000000000)(hr:Hs.right p=true)(hk:p.kind=11)(hc:(Hs.place t p.path).2.2=0):Calls Tryz.prog 87 #[.pointer (some ⟨X.f,0,none⟩),.int .i64 o,.agg p.cells.toArray] w0 (yv X t zs hs w0 (Hs.aO t hs o p)):=by
 obtain⟨xf,g,xs,xh,va,vc,rfl,hv,hM,bo,cN,cM,HB⟩:=ZF h
 have HV:=qh hv
 have HK:=qh h.hok
 have HL:=qh h.hlen
 have bN:=qh (fun (W:World)=>zZ p hp hd W)
 have cR:=qh (fun (W:World) hA=>zT (bo.out W hA) I (by omega) p.path hp.size hp.few hp.each)
 have hps:=Zc hp t
 have HC:=qh (fun (W:World) (hA:At (rL ⟨g,xs⟩ t.quota (t.last+1) zs) W)=>BB (cN.out W hA) I (by omega) (Hs.place t p.path).1 (Hs.place t p.path).2.1 hps)
 obtain⟨R,hR0⟩: ∃ R,Hs.aO t hs o p=R:=⟨_,rfl⟩
 rw[hR0]
 unfold Hs.aO at hR0
 rw[hr] at bN hR0
 rw[if_neg (by simp),if_neg (by omega),if_neg (by omega),if_neg (fun he=>he hc)] at hR0
 rw[C9 hk] at hR0
 have HR0:=qh hR0
 clear hR0
 rw[hc] at cR
 generalize In.unlink t (Hs.place t p.path).1 (Hs.place t p.path).2.1=M at*
 obtain⟨kind,path,dest,hh,at_,n,data,pid,birth⟩:=p
 simp only at*
 unfold OpD.cells at*
 simp only at*
 subst hk
 generalize (Hs.place t path).2.1=nm at*
 generalize (Hs.place t path).1=pd at*
 clear h I hv hr hp hd hz hl hc hps
 go_enter Tryz.func87,Tryz.ntmps87
 (refine qw ?_;intros;rename_i hM)
 (refine qCB (bN.out _) hM ?_;clear hM;intro w' hM)
 (refine qw ?_;intros;rename_i hM)
 (refine qCB (cR.out _ (hM.part (Part.skip (Part.skip Part.all)))) hM ?_;clear hM;intro w' hM)
 (refine qw ?_;intros;rename_i hM)
 (refine qKx ?_;intro R hR)
 refine(HC.out _ (hM.part (Part.skip (Part.skip (Part.skip (Part.past Part.all)))))).mono ?_
 rintro e w' ⟨rfl,s2,aF,aZ,hto⟩
 have ff:=qh (Grow.trans (fun k hk=> .inl (cM.out k hk)) hto.grow hM.only.size:Grow w0 (ze (bw ⟨xf,⟨g,xs⟩,xh⟩ t.quota (t.last+1) zs hs)) _)
 replace hM:=hM.az (Swap.skip (Swap.skip (Swap.skip (Swap.past Swap.all)))) hto.st Yg hto.grow
 refine qho ?_
 clear hR R
 have HZ:=qh (And.intro hto.raw.sl (And.intro hto.raw.names (And.intro hto.raw.len aZ)))
 clear hto aZ HC
 (refine qq ?_)
 (refine qw ?_;intros;rename_i hM)
 (refine qf ?_)
 rw[←HR0.out]
 refine⟨rfl,⟨xf,⟨g,s2⟩,xh⟩,aF,St.dC ?_ rfl rfl HZ.out.1 HZ.out.2.1 HZ.out.2.2.1 HZ.out.2.2.2 HK.out HL.out ff.out⟩
 rw[zP (X:=⟨xf,⟨g,s2⟩,xh⟩) HV.out]
 exact hM.forget.forget
theorem Dl(h:av X t zs hs w0)(I:In.Inv N t)(hN:N≤899990)(hl:hs.length≤900000)(o:Int)(p:OpD)(hp:ai p.path)(hd:ai p.dest)(hz:p.data.size≤1000000000)(hr:Hs.right p=true)(hk:p.kind=3)(h8:¬8≤Hs.many hs o)(hc:(Hs.place t p.path).2.2=0)(he:(In.make t (Hs.place t p.path).1 (Hs.place t p.path).2.1 false).2.1≠0):Calls Tryz.prog 87 #[.pointer (some ⟨X.f,0,none⟩),.int .i64 o,.agg p.cells.toArray] w0 (yv X t zs hs w0 (Hs.aO t hs o p)):=by
 obtain⟨xf,g,xs,xh,va,vc,rfl,hv,hM,bo,cN,cM,HB⟩:=ZF h
 have HV:=qh hv
 have HK:=qh h.hok
 have HL:=qh h.hlen
 have bN:=qh (fun (W:World)=>zZ p hp hd W)
 have cR:=qh (fun (W:World) hA=>zT (bo.out W hA) I (by omega) p.path hp.size hp.few hp.each)
 have kQ:=qh (fun (W:World) hA=>Yb (bo.out W hA) o)
 have hps:=Zc hp t
 have HC:=qh (fun (W:World) (hA:At (rL ⟨g,xs⟩ t.quota (t.last+1) zs) W)=>si (cN.out W hA) I (by omega) (Hs.place t p.path).1 (Hs.place t p.path).2.1 false hps)
 obtain⟨R,hR0⟩: ∃ R,Hs.aO t hs o p=R:=⟨_,rfl⟩
 rw[hR0]
 unfold Hs.aO at hR0
 rw[hr] at bN hR0
 rw[if_neg (by simp),if_neg (by omega),if_neg (fun hc=>by have:=hc.2;omega),if_neg (fun he=>he hc)] at hR0
 rw[vt hk] at hR0
 rw[if_pos he] at hR0
 have HR0:=qh hR0
 clear hR0
 rw[hc] at cR
 generalize In.make t (Hs.place t p.path).1 (Hs.place t p.path).2.1 false=M at*
 obtain⟨kind,path,dest,hh,at_,n,data,pid,birth⟩:=p
 simp only at*
 unfold OpD.cells at*
 simp only at*
 subst hk
 generalize (Hs.place t path).2.1=nm at*
 generalize (Hs.place t path).1=pd at*
 generalize Hs.many hs o=m at*
 have m8:¬((8:Int)≤(m:Int)):=by omega
 clear h8
 have q2:(M.2.1 != 0)=true:=bne_iff_ne.2 he
 clear he
 clear h I hv hr hp hd hz hl hc hps
 go_enter Tryz.func87,Tryz.ntmps87
 (refine qw ?_;intros;rename_i hM)
 (refine qCB (bN.out _) hM ?_;clear hM;intro w' hM)
 (refine qw ?_;intros;rename_i hM)
 (refine qCB (kQ.out _ (hM.part (Part.skip (Part.skip Part.all)))) hM ?_;clear hM;intro w' hM)
 (refine qw ?_;intros;rename_i hM)
 (refine qCB (cR.out _ (hM.part (Part.skip (Part.skip Part.all)))) hM ?_;clear hM;intro w' hM)
 (refine qw ?_;intros;rename_i hM)
 (refine qKx ?_;intro R hR)
 refine(HC.out _ (hM.part (Part.skip (Part.skip (Part.skip (Part.past Part.all)))))).mono ?_
 rintro e w' ⟨rfl,s2,aF,aZ,hto⟩
 have ff:=qh (Grow.trans (fun k hk=> .inl (cM.out k hk)) hto.grow hM.only.size:Grow w0 (ze (bw ⟨xf,⟨g,xs⟩,xh⟩ t.quota (t.last+1) zs hs)) _)
 replace hM:=hM.az (Swap.skip (Swap.skip (Swap.skip (Swap.past Swap.all)))) hto.st Yg hto.grow
 refine qho ?_
 clear hR R
 have HZ:=qh (And.intro hto.raw.sl (And.intro hto.raw.names (And.intro hto.raw.len aZ)))
 clear hto aZ HC
 (refine qq ?_)
 (refine qw ?_;intros;rename_i hM)
 (refine qf ?_)
 rw[←HR0.out]
 refine⟨rfl,⟨xf,⟨g,s2⟩,xh⟩,aF,St.dC ?_ rfl rfl HZ.out.1 HZ.out.2.1 HZ.out.2.2.1 HZ.out.2.2.2 HK.out HL.out ff.out⟩
 rw[zP (X:=⟨xf,⟨g,s2⟩,xh⟩) HV.out]
 exact hM.forget.forget
theorem Dm(h:av X t zs hs w0)(I:In.Inv N t)(hN:N≤899990)(hl:hs.length≤900000)(o:Int)(p:OpD)(hp:ai p.path)(hd:ai p.dest)(hz:p.data.size≤1000000000)(hr:Hs.right p=true)(hk:p.kind=3)(h8:¬8≤Hs.many hs o)(hc:(Hs.place t p.path).2.2=0)(he:(In.make t (Hs.place t p.path).1 (Hs.place t p.path).2.1 false).2.1=0):Calls Tryz.prog 87 #[.pointer (some ⟨X.f,0,none⟩),.int .i64 o,.agg p.cells.toArray] w0 (yv X t zs hs w0 (Hs.aO t hs o p)):=by
 obtain⟨xf,g,xs,xh,va,vc,rfl,hv,hM,bo,cN,cM,HB⟩:=ZF h
 have HV:=qh hv
 have HK:=qh h.hok
 have HL:=qh h.hlen
 have bN:=qh (fun (W:World)=>zZ p hp hd W)
 have cR:=qh (fun (W:World) hA=>zT (bo.out W hA) I (by omega) p.path hp.size hp.few hp.each)
 have kQ:=qh (fun (W:World) hA=>Yb (bo.out W hA) o)
 have hps:=Zc hp t
 have HC:=qh (fun (W:World) (hA:At (rL ⟨g,xs⟩ t.quota (t.last+1) zs) W)=>si (cN.out W hA) I (by omega) (Hs.place t p.path).1 (Hs.place t p.path).2.1 false hps)
 have kM:=qh (fun (W:World) (s2:Option (Nat×Nat)) (aF:List NodV) (h2:av ⟨xf,⟨g,s2⟩,xh⟩ (In.make t (Hs.place t p.path).1 (Hs.place t p.path).2.1 false).2.2 aF hs W)=>u6 h2 (In.inv_make I (Hs.place t p.path).1 (Hs.place t p.path).2.1 false) (by omega) hl o (In.make t (Hs.place t p.path).1 (Hs.place t p.path).2.1 false).1)
 obtain⟨R,hR0⟩: ∃ R,Hs.aO t hs o p=R:=⟨_,rfl⟩
 rw[hR0]
 unfold Hs.aO at hR0
 rw[hr] at bN hR0
 rw[if_neg (by simp),if_neg (by omega),if_neg (fun hc=>by have:=hc.2;omega),if_neg (fun he=>he hc)] at hR0
 rw[vt hk] at hR0
 rw[if_neg (fun h=>h he)] at hR0
 have HR0:=qh hR0
 clear hR0
 rw[hc] at cR
 rw[he] at HC
 generalize In.make t (Hs.place t p.path).1 (Hs.place t p.path).2.1 false=M at*
 obtain⟨kind,path,dest,hh,at_,n,data,pid,birth⟩:=p
 simp only at*
 unfold OpD.cells at*
 simp only at*
 subst hk
 generalize (Hs.place t path).2.1=nm at*
 generalize (Hs.place t path).1=pd at*
 generalize Hs.many hs o=m at*
 have m8:¬((8:Int)≤(m:Int)):=by omega
 clear h8
 clear he
 clear h I hv hr hp hd hz hl hc hps
 go_enter Tryz.func87,Tryz.ntmps87
 (refine qw ?_;intros;rename_i hM)
 (refine qCB (bN.out _) hM ?_;clear hM;intro w' hM)
 (refine qw ?_;intros;rename_i hM)
 (refine qCB (kQ.out _ (hM.part (Part.skip (Part.skip Part.all)))) hM ?_;clear hM;intro w' hM)
 (refine qw ?_;intros;rename_i hM)
 (refine qCB (cR.out _ (hM.part (Part.skip (Part.skip Part.all)))) hM ?_;clear hM;intro w' hM)
 (refine qw ?_;intros;rename_i hM)
 (refine qKx ?_;intro R hR)
 refine(HC.out _ (hM.part (Part.skip (Part.skip (Part.skip (Part.past Part.all)))))).mono ?_
 rintro e w' ⟨rfl,s2,aF,aZ,hto⟩
 have ff:=qh (Grow.trans (fun k hk=> .inl (cM.out k hk)) hto.grow hM.only.size:Grow w0 (ze (bw ⟨xf,⟨g,xs⟩,xh⟩ t.quota (t.last+1) zs hs)) _)
 replace hM:=hM.az (Swap.skip (Swap.skip (Swap.skip (Swap.past Swap.all)))) hto.st Yg hto.grow
 refine qho ?_
 clear hR R
 have HZ:=qh (And.intro hto.raw.sl (And.intro hto.raw.names (And.intro hto.raw.len aZ)))
 clear hto aZ HC
 (refine qq ?_)
 (refine qw ?_;intros;rename_i hM)
 have HG:=qh (fun (W:World) (hA:At ((xf,true,Res.cells [.pointer (some ⟨g,0,none⟩),.slice va hs.length vc] 76)::(aX xh hs++rL ⟨g,s2⟩ M.2.2.quota (M.2.2.last+1) aF)) W)=>kM.out W s2 aF ⟨by rw[zP (X:=⟨xf,⟨g,s2⟩,xh⟩) HV.out];exact hA,HZ.out.1,HZ.out.2.1,HZ.out.2.2.1,HZ.out.2.2.2,HK.out,HL.out⟩)
 (refine qKx ?_;intro R hR)
 refine(HG.out _ (hM.part (Part.skip (Part.skip Part.all)))).mono ?_
 rintro e w' (⟨hc1,rfl,X2,fW,hto⟩|⟨hc1,rfl,X2,fW,hto⟩)
 ·have jC:=qh (Grow.trans ff.out.full hto.grow hM.only.size)
  rw[←zP (X:=⟨xf,⟨g,s2⟩,xh⟩) HV.out] at hM
  replace hM:=hM.az (Swap.skip (Swap.skip Swap.all)) hto.st Zr hto.grow
  refine qho ?_
  clear hR R
  have cL:=qh hto
  clear hto HG
  have HRR:=qh (HR0.out.symm.trans (by unfold Hs.gives;rw[if_neg hc1]))
  clear HR0 hc1
  (refine qq ?_)
  (refine qw ?_;intros;rename_i hM)
  (refine qf ?_)
  rw[HRR.out]
  exact⟨rfl,cL.out.fin hM.forget.forget rfl rfl jC.out⟩
 ·have jC:=qh (Grow.trans ff.out.full hto.grow hM.only.size)
  rw[←zP (X:=⟨xf,⟨g,s2⟩,xh⟩) HV.out] at hM
  replace hM:=hM.az (Swap.skip (Swap.skip Swap.all)) hto.st Zr hto.grow
  refine qho ?_
  clear hR R
  have cL:=qh hto
  clear hto HG
  have HRR:=qh (HR0.out.symm.trans (by unfold Hs.gives;rw[if_pos hc1]))
  clear HR0 hc1
  (refine qq ?_)
  (refine qw ?_;intros;rename_i hM)
  (refine qf ?_)
  rw[HRR.out]
  exact⟨rfl,cL.out.fin hM.forget.forget rfl rfl jC.out⟩
theorem Dn(h:av X t zs hs w0)(I:In.Inv N t)(hN:N≤899990)(hl:hs.length≤900000)(o:Int)(p:OpD)(hp:ai p.path)(hd:ai p.dest)(hz:p.data.size≤1000000000)(hr:Hs.right p=true)(hk:p.kind=4)(h8:¬8≤Hs.many hs o)(hc:(Hs.place t p.path).2.2=0)(he:In.findE t (Hs.place t p.path).1 (Hs.place t p.path).2.1≠0):Calls Tryz.prog 87 #[.pointer (some ⟨X.f,0,none⟩),.int .i64 o,.agg p.cells.toArray] w0 (yv X t zs hs w0 (Hs.aO t hs o p)):=by
 obtain⟨xf,g,xs,xh,va,vc,rfl,hv,hM,bo,cN,cM,HB⟩:=ZF h
 have HV:=qh hv
 have HK:=qh h.hok
 have HL:=qh h.hlen
 have bN:=qh (fun (W:World)=>zZ p hp hd W)
 have cR:=qh (fun (W:World) hA=>zT (bo.out W hA) I (by omega) p.path hp.size hp.few hp.each)
 have kQ:=qh (fun (W:World) hA=>Yb (bo.out W hA) o)
 have hps:=Zc hp t
 have HC:=qh (fun (W:World) (hA:At (rL ⟨g,xs⟩ t.quota (t.last+1) zs) W)=>Zv (cN.out W hA) I (by omega) (Hs.place t p.path).1 (Hs.place t p.path).2.1 hps)
 obtain⟨R,hR0⟩: ∃ R,Hs.aO t hs o p=R:=⟨_,rfl⟩
 rw[hR0]
 unfold Hs.aO at hR0
 rw[hr] at bN hR0
 rw[if_neg (by simp),if_neg (by omega),if_neg (fun hc=>by have:=hc.2;omega),if_neg (fun he=>he hc)] at hR0
 rw[vu hk] at hR0
 rw[if_pos he] at hR0
 have HR0:=qh hR0
 clear hR0
 rw[hc] at cR
 generalize In.findE t (Hs.place t p.path).1 (Hs.place t p.path).2.1=c2 at*
 generalize In.findN t (Hs.place t p.path).1 (Hs.place t p.path).2.1=id at*
 obtain⟨kind,path,dest,hh,at_,n,data,pid,birth⟩:=p
 simp only at*
 unfold OpD.cells at*
 simp only at*
 subst hk
 generalize (Hs.place t path).2.1=nm at*
 generalize (Hs.place t path).1=pd at*
 generalize Hs.many hs o=m at*
 have m8:¬((8:Int)≤(m:Int)):=by omega
 clear h8
 have q2:(c2 != 0)=true:=bne_iff_ne.2 he
 clear he
 clear h I hv hr hp hd hz hl hc hps
 go_enter Tryz.func87,Tryz.ntmps87
 (refine qw ?_;intros;rename_i hM)
 (refine qCB (bN.out _) hM ?_;clear hM;intro w' hM)
 (refine qw ?_;intros;rename_i hM)
 (refine qCB (kQ.out _ (hM.part (Part.skip (Part.skip Part.all)))) hM ?_;clear hM;intro w' hM)
 (refine qw ?_;intros;rename_i hM)
 (refine qCB (cR.out _ (hM.part (Part.skip (Part.skip Part.all)))) hM ?_;clear hM;intro w' hM)
 (refine qw ?_;intros;rename_i hM)
 (refine qCB (HC.out _ (hM.part (Part.skip (Part.skip (Part.skip (Part.past Part.all)))))) hM ?_;clear hM;intro w' hM)
 (refine qw ?_;intros;rename_i hM)
 (refine qf ?_)
 rw[←HR0.out]
 exact⟨rfl,HB.out _ hM.forget.forget⟩
theorem Dp(h:av X t zs hs w0)(I:In.Inv N t)(hN:N≤899990)(hl:hs.length≤900000)(o:Int)(p:OpD)(hp:ai p.path)(hd:ai p.dest)(hz:p.data.size≤1000000000)(hr:Hs.right p=true)(hk:p.kind=4)(h8:¬8≤Hs.many hs o)(hc:(Hs.place t p.path).2.2=0)(he:In.findE t (Hs.place t p.path).1 (Hs.place t p.path).2.1=0):Calls Tryz.prog 87 #[.pointer (some ⟨X.f,0,none⟩),.int .i64 o,.agg p.cells.toArray] w0 (yv X t zs hs w0 (Hs.aO t hs o p)):=by
 obtain⟨xf,g,xs,xh,va,vc,rfl,hv,hM,bo,cN,cM,HB⟩:=ZF h
 have HV:=qh hv
 have HK:=qh h.hok
 have HL:=qh h.hlen
 have bN:=qh (fun (W:World)=>zZ p hp hd W)
 have cR:=qh (fun (W:World) hA=>zT (bo.out W hA) I (by omega) p.path hp.size hp.few hp.each)
 have kQ:=qh (fun (W:World) hA=>Yb (bo.out W hA) o)
 have hps:=Zc hp t
 have HC:=qh (fun (W:World) (hA:At (rL ⟨g,xs⟩ t.quota (t.last+1) zs) W)=>Zv (cN.out W hA) I (by omega) (Hs.place t p.path).1 (Hs.place t p.path).2.1 hps)
 have HG:=qh (fun (W:World) (hA:At ((xf,true,Res.cells [.pointer (some ⟨g,0,none⟩),.slice va hs.length vc] 76)::(aX xh hs++rL ⟨g,xs⟩ t.quota (t.last+1) zs)) W)=>u6 (bo.out W hA) I (by omega) hl o (In.findN t (Hs.place t p.path).1 (Hs.place t p.path).2.1))
 obtain⟨R,hR0⟩: ∃ R,Hs.aO t hs o p=R:=⟨_,rfl⟩
 rw[hR0]
 unfold Hs.aO at hR0
 rw[hr] at bN hR0
 rw[if_neg (by simp),if_neg (by omega),if_neg (fun hc=>by have:=hc.2;omega),if_neg (fun he=>he hc)] at hR0
 rw[vu hk] at hR0
 rw[if_neg (fun h=>h he)] at hR0
 have HR0:=qh hR0
 clear hR0
 rw[hc] at cR
 rw[he] at HC
 generalize In.findN t (Hs.place t p.path).1 (Hs.place t p.path).2.1=id at*
 obtain⟨kind,path,dest,hh,at_,n,data,pid,birth⟩:=p
 simp only at*
 unfold OpD.cells at*
 simp only at*
 subst hk
 generalize (Hs.place t path).2.1=nm at*
 generalize (Hs.place t path).1=pd at*
 generalize Hs.many hs o=m at*
 have m8:¬((8:Int)≤(m:Int)):=by omega
 clear h8
 clear he
 clear h I hv hr hp hd hz hl hc hps
 go_enter Tryz.func87,Tryz.ntmps87
 (refine qw ?_;intros;rename_i hM)
 (refine qCB (bN.out _) hM ?_;clear hM;intro w' hM)
 (refine qw ?_;intros;rename_i hM)
 (refine qCB (kQ.out _ (hM.part (Part.skip (Part.skip Part.all)))) hM ?_;clear hM;intro w' hM)
 (refine qw ?_;intros;rename_i hM)
 (refine qCB (cR.out _ (hM.part (Part.skip (Part.skip Part.all)))) hM ?_;clear hM;intro w' hM)
 (refine qw ?_;intros;rename_i hM)
 (refine qCB (HC.out _ (hM.part (Part.skip (Part.skip (Part.skip (Part.past Part.all)))))) hM ?_;clear hM;intro w' hM)
 (refine qw ?_;intros;rename_i hM)
 (refine qKx ?_;intro R hR)
 refine(HG.out _ (hM.part (Part.skip (Part.skip Part.all)))).mono ?_
 rintro e w' (⟨hc1,rfl,X2,fW,hto⟩|⟨hc1,rfl,X2,fW,hto⟩)
 ·have jC:=qh (Grow.trans (Grow.refl w0 _) hto.grow hM.only.size)
  rw[←zP (X:=⟨xf,⟨g,xs⟩,xh⟩) HV.out] at hM
  replace hM:=hM.az (Swap.skip (Swap.skip Swap.all)) hto.st Zr hto.grow
  refine qho ?_
  clear hR R
  have cL:=qh hto
  clear hto HG
  have HRR:=qh (HR0.out.symm.trans (by unfold Hs.gives;rw[if_neg hc1]))
  clear HR0 hc1
  (refine qq ?_)
  (refine qw ?_;intros;rename_i hM)
  (refine qf ?_)
  rw[HRR.out]
  exact⟨rfl,cL.out.fin hM.forget.forget rfl rfl jC.out⟩
 ·have jC:=qh (Grow.trans (Grow.refl w0 _) hto.grow hM.only.size)
  rw[←zP (X:=⟨xf,⟨g,xs⟩,xh⟩) HV.out] at hM
  replace hM:=hM.az (Swap.skip (Swap.skip Swap.all)) hto.st Zr hto.grow
  refine qho ?_
  clear hR R
  have cL:=qh hto
  clear hto HG
  have HRR:=qh (HR0.out.symm.trans (by unfold Hs.gives;rw[if_pos hc1]))
  clear HR0 hc1
  (refine qq ?_)
  (refine qw ?_;intros;rename_i hM)
  (refine qf ?_)
  rw[HRR.out]
  exact⟨rfl,cL.out.fin hM.forget.forget rfl rfl jC.out⟩
theorem Dq(h:av X t zs hs w0)(I:In.Inv N t)(hN:N≤899990)(hl:hs.length≤900000)(o:Int)(p:OpD)(hp:ai p.path)(hd:ai p.dest)(hz:p.data.size≤1000000000)(hr:Hs.right p=true)(hk:p.kind=10)(hc:(Hs.place t p.path).2.2=0):Calls Tryz.prog 87 #[.pointer (some ⟨X.f,0,none⟩),.int .i64 o,.agg p.cells.toArray] w0 (yv X t zs hs w0 (Hs.aO t hs o p)):=by
 obtain⟨xf,g,xs,xh,va,vc,rfl,hv,hM,bo,cN,cM,HB⟩:=ZF h
 have HV:=qh hv
 have HK:=qh h.hok
 have HL:=qh h.hlen
 have bN:=qh (fun (W:World)=>zZ p hp hd W)
 have cR:=qh (fun (W:World) hA=>zT (bo.out W hA) I (by omega) p.path hp.size hp.few hp.each)
 have hps:=Zc hp t
 have HC:=qh (fun (W:World) hA=>C6 (bo.out W hA) I (by omega) (Hs.place t p.path).1 (Hs.place t p.path).2.1 p.dest hps hd)
 obtain⟨R,hR0⟩: ∃ R,Hs.aO t hs o p=R:=⟨_,rfl⟩
 rw[hR0]
 unfold Hs.aO at hR0
 rw[hr] at bN hR0
 rw[if_neg (by simp),if_neg (by omega),if_neg (by omega),if_neg (fun he=>he hc)] at hR0
 rw[C_ hk] at hR0
 have HR0:=qh hR0
 clear hR0
 rw[hc] at cR
 generalize Hs.links t hs (Hs.place t p.path).1 (Hs.place t p.path).2.1 p.dest=R1 at*
 obtain⟨kind,path,dest,hh,at_,n,data,pid,birth⟩:=p
 simp only at*
 unfold OpD.cells at*
 simp only at*
 subst hk
 generalize (Hs.place t path).2.1=nm at*
 generalize (Hs.place t path).1=pd at*
 clear h I hv hr hp hd hz hl hc hps
 go_enter Tryz.func87,Tryz.ntmps87
 (refine qw ?_;intros;rename_i hM)
 (refine qCB (bN.out _) hM ?_;clear hM;intro w' hM)
 (refine qw ?_;intros;rename_i hM)
 (refine qCB (cR.out _ (hM.part (Part.skip (Part.skip Part.all)))) hM ?_;clear hM;intro w' hM)
 (refine qw ?_;intros;rename_i hM)
 (refine qKx ?_;intro R hR)
 refine(HC.out _ (hM.part (Part.skip (Part.skip Part.all)))).mono ?_
 rintro e w' ⟨rfl,X2,aF,hto⟩
 have jC:=qh (Grow.trans (Grow.refl w0 _) hto.grow hM.only.size)
 rw[←zP (X:=⟨xf,⟨g,xs⟩,xh⟩) HV.out] at hM
 replace hM:=hM.az (Swap.skip (Swap.skip Swap.all)) hto.st Zr hto.grow
 refine qho ?_
 clear hR R
 have cL:=qh hto
 clear hto HC
 (refine qq ?_)
 (refine qw ?_;intros;rename_i hM)
 (refine qf ?_)
 rw[←HR0.out]
 exact⟨rfl,cL.out.fin hM.forget.forget rfl rfl jC.out⟩
theorem Dr(h:av X t zs hs w0)(I:In.Inv N t)(hN:N≤899990)(hl:hs.length≤900000)(o:Int)(p:OpD)(hp:ai p.path)(hd:ai p.dest)(hz:p.data.size≤1000000000)(hr:Hs.right p=true)(hk:p.kind=12)(hc:(Hs.place t p.path).2.2=0)(he:(Hs.place t p.dest).2.2≠0):Calls Tryz.prog 87 #[.pointer (some ⟨X.f,0,none⟩),.int .i64 o,.agg p.cells.toArray] w0 (yv X t zs hs w0 (Hs.aO t hs o p)):=by
 obtain⟨xf,g,xs,xh,va,vc,rfl,hv,hM,bo,cN,cM,HB⟩:=ZF h
 have HV:=qh hv
 have HK:=qh h.hok
 have HL:=qh h.hlen
 have bN:=qh (fun (W:World)=>zZ p hp hd W)
 have cR:=qh (fun (W:World) hA=>zT (bo.out W hA) I (by omega) p.path hp.size hp.few hp.each)
 have hps:=Zc hp t
 have ox:=qh (fun (W:World) hA=>zT (bo.out W hA) I (by omega) p.dest hd.size hd.few hd.each)
 have hds:=Zc hd t
 obtain⟨R,hR0⟩: ∃ R,Hs.aO t hs o p=R:=⟨_,rfl⟩
 rw[hR0]
 unfold Hs.aO at hR0
 rw[hr] at bN hR0
 rw[if_neg (by simp),if_neg (by omega),if_neg (by omega),if_neg (fun he=>he hc)] at hR0
 rw[vv hk] at hR0
 rw[if_pos he] at hR0
 have HR0:=qh hR0
 clear hR0
 rw[hc] at cR
 generalize (Hs.place t p.dest).2.2=c2 at*
 generalize (Hs.place t p.dest).2.1=Ds at*
 generalize (Hs.place t p.dest).1=Dt at*
 obtain⟨kind,path,dest,hh,at_,n,data,pid,birth⟩:=p
 simp only at*
 unfold OpD.cells at*
 simp only at*
 subst hk
 generalize (Hs.place t path).2.1=nm at*
 generalize (Hs.place t path).1=pd at*
 have q2:(c2 != 0)=true:=bne_iff_ne.2 he
 clear he hds
 clear h I hv hr hp hd hz hl hc hps
 go_enter Tryz.func87,Tryz.ntmps87
 (refine qw ?_;intros;rename_i hM)
 (refine qCB (bN.out _) hM ?_;clear hM;intro w' hM)
 (refine qw ?_;intros;rename_i hM)
 (refine qCB (cR.out _ (hM.part (Part.skip (Part.skip Part.all)))) hM ?_;clear hM;intro w' hM)
 (refine qw ?_;intros;rename_i hM)
 (refine qCB (ox.out _ (hM.part (Part.skip (Part.skip Part.all)))) hM ?_;clear hM;intro w' hM)
 (refine qw ?_;intros;rename_i hM)
 (refine qf ?_)
 rw[←HR0.out]
 exact⟨rfl,HB.out _ hM.forget.forget⟩
theorem Du(h:av X t zs hs w0)(I:In.Inv N t)(hN:N≤899990)(hl:hs.length≤900000)(o:Int)(p:OpD)(hp:ai p.path)(hd:ai p.dest)(hz:p.data.size≤1000000000)(hr:Hs.right p=true)(hk:p.kind=12)(hc:(Hs.place t p.path).2.2=0)(he:(Hs.place t p.dest).2.2=0):Calls Tryz.prog 87 #[.pointer (some ⟨X.f,0,none⟩),.int .i64 o,.agg p.cells.toArray] w0 (yv X t zs hs w0 (Hs.aO t hs o p)):=by
 obtain⟨xf,g,xs,xh,va,vc,rfl,hv,hM,bo,cN,cM,HB⟩:=ZF h
 have HV:=qh hv
 have HK:=qh h.hok
 have HL:=qh h.hlen
 have bN:=qh (fun (W:World)=>zZ p hp hd W)
 have cR:=qh (fun (W:World) hA=>zT (bo.out W hA) I (by omega) p.path hp.size hp.few hp.each)
 have hps:=Zc hp t
 have ox:=qh (fun (W:World) hA=>zT (bo.out W hA) I (by omega) p.dest hd.size hd.few hd.each)
 have hds:=Zc hd t
 have HC:=qh (fun (W:World) (hA:At (rL ⟨g,xs⟩ t.quota (t.last+1) zs) W)=>Db (cN.out W hA) I (by omega) (Hs.place t p.path).1 (Hs.place t p.path).2.1 (Hs.place t p.dest).1 (Hs.place t p.dest).2.1 hps hds)
 obtain⟨R,hR0⟩: ∃ R,Hs.aO t hs o p=R:=⟨_,rfl⟩
 rw[hR0]
 unfold Hs.aO at hR0
 rw[hr] at bN hR0
 rw[if_neg (by simp),if_neg (by omega),if_neg (by omega),if_neg (fun he=>he hc)] at hR0
 rw[vv hk] at hR0
 rw[if_neg (fun h=>h he)] at hR0
 have HR0:=qh hR0
 clear hR0
 rw[hc] at cR
 rw[he] at ox
 generalize In.rename t (Hs.place t p.path).1 (Hs.place t p.path).2.1 (Hs.place t p.dest).1 (Hs.place t p.dest).2.1=M at*
 generalize (Hs.place t p.dest).2.1=Ds at*
 generalize (Hs.place t p.dest).1=Dt at*
 obtain⟨kind,path,dest,hh,at_,n,data,pid,birth⟩:=p
 simp only at*
 unfold OpD.cells at*
 simp only at*
 subst hk
 generalize (Hs.place t path).2.1=nm at*
 generalize (Hs.place t path).1=pd at*
 clear he hds
 clear h I hv hr hp hd hz hl hc hps
 go_enter Tryz.func87,Tryz.ntmps87
 (refine qw ?_;intros;rename_i hM)
 (refine qCB (bN.out _) hM ?_;clear hM;intro w' hM)
 (refine qw ?_;intros;rename_i hM)
 (refine qCB (cR.out _ (hM.part (Part.skip (Part.skip Part.all)))) hM ?_;clear hM;intro w' hM)
 (refine qw ?_;intros;rename_i hM)
 (refine qCB (ox.out _ (hM.part (Part.skip (Part.skip Part.all)))) hM ?_;clear hM;intro w' hM)
 (refine qw ?_;intros;rename_i hM)
 (refine qKx ?_;intro R hR)
 refine(HC.out _ (hM.part (Part.skip (Part.skip (Part.skip (Part.past Part.all)))))).mono ?_
 rintro e w' ⟨rfl,s2,aF,aZ,hto⟩
 have ff:=qh (Grow.trans (fun k hk=> .inl (cM.out k hk)) hto.grow hM.only.size:Grow w0 (ze (bw ⟨xf,⟨g,xs⟩,xh⟩ t.quota (t.last+1) zs hs)) _)
 replace hM:=hM.az (Swap.skip (Swap.skip (Swap.skip (Swap.past Swap.all)))) hto.st Yg hto.grow
 refine qho ?_
 clear hR R
 have HZ:=qh (And.intro hto.raw.sl (And.intro hto.raw.names (And.intro hto.raw.len aZ)))
 clear hto aZ HC
 (refine qq ?_)
 (refine qw ?_;intros;rename_i hM)
 (refine qf ?_)
 rw[←HR0.out]
 refine⟨rfl,⟨xf,⟨g,s2⟩,xh⟩,aF,St.dC ?_ rfl rfl HZ.out.1 HZ.out.2.1 HZ.out.2.2.1 HZ.out.2.2.2 HK.out HL.out ff.out⟩
 rw[zP (X:=⟨xf,⟨g,s2⟩,xh⟩) HV.out]
 exact hM.forget.forget
theorem Dv(h:av X t zs hs w0)(I:In.Inv N t)(hN:N≤899990)(hl:hs.length≤900000)(o:Int)(p:OpD)(hp:ai p.path)(hd:ai p.dest)(hz:p.data.size≤1000000000)(cQ:¬(Hs.right p=true∧p.kind=13)):Calls Tryz.prog 87 #[.pointer (some ⟨X.f,0,none⟩),.int .i64 o,.agg p.cells.toArray] w0 (yv X t zs hs w0 (Hs.aO t hs o p)):=by
 cases hr:Hs.right p with
 |false=>exact Da h I hN hl o p hp hd hz hr
 |true=>
  have rr:1≤p.kind∧p.kind≤12:=by
   have Dw:p.kind≠13:=fun e=>cQ ⟨hr,e⟩
   unfold Hs.right at hr
   split at hr
   ·omega
   ·split at hr
    ·omega
    ·have:=(Bool.and_eq_true _ _).mp hr
     have h1:=of_decide_eq_true this.1
     have h2:=of_decide_eq_true this.2
     omega
  by_cases k5:p.kind=5
  ·exact pq h I hN hl o p hp hd hz hr (.inl k5)
  by_cases k6:p.kind=6
  ·exact pq h I hN hl o p hp hd hz hr (.inr (.inl k6))
  by_cases k7:p.kind=7
  ·exact pq h I hN hl o p hp hd hz hr (.inr (.inr (.inl k7)))
  by_cases k8:p.kind=8
  ·exact pq h I hN hl o p hp hd hz hr (.inr (.inr (.inr (.inl k8))))
  by_cases k9:p.kind=9
  ·exact pq h I hN hl o p hp hd hz hr (.inr (.inr (.inr (.inr k9))))
  by_cases k3:p.kind=3
  ·by_cases h8:8≤Hs.many hs o
   ·exact vw h I hN hl o p hp hd hz hr (.inl k3) h8
   by_cases hc:(Hs.place t p.path).2.2=0
   ·by_cases he:(In.make t (Hs.place t p.path).1 (Hs.place t p.path).2.1 false).2.1=0
    ·exact Dm h I hN hl o p hp hd hz hr k3 h8 hc he
    ·exact Dl h I hN hl o p hp hd hz hr k3 h8 hc he
   ·exact vx h I hN hl o p hp hd hz hr (.inl k3) h8 hc
  by_cases k4:p.kind=4
  ·by_cases h8:8≤Hs.many hs o
   ·exact vw h I hN hl o p hp hd hz hr (.inr k4) h8
   by_cases hc:(Hs.place t p.path).2.2=0
   ·by_cases he:In.findE t (Hs.place t p.path).1 (Hs.place t p.path).2.1=0
    ·exact Dp h I hN hl o p hp hd hz hr k4 h8 hc he
    ·exact Dn h I hN hl o p hp hd hz hr k4 h8 hc he
   ·exact vx h I hN hl o p hp hd hz hr (.inr k4) h8 hc
  by_cases k1:p.kind=1
  ·by_cases hc:(Hs.place t p.path).2.2=0
   ·exact Di h I hN hl o p hp hd hz hr k1 hc
   ·exact pD h I hN hl o p hp hd hz hr (.inl k1) hc
  by_cases k2:p.kind=2
  ·by_cases hc:(Hs.place t p.path).2.2=0
   ·exact Dj h I hN hl o p hp hd hz hr k2 hc
   ·exact pD h I hN hl o p hp hd hz hr (.inr (.inl k2)) hc
  by_cases vy:p.kind=11
  ·by_cases hc:(Hs.place t p.path).2.2=0
   ·exact Dk h I hN hl o p hp hd hz hr vy hc
   ·exact pD h I hN hl o p hp hd hz hr (.inr (.inr (.inr (.inl vy)))) hc
  by_cases vz:p.kind=10
  ·by_cases hc:(Hs.place t p.path).2.2=0
   ·exact Dq h I hN hl o p hp hd hz hr vz hc
   ·exact pD h I hN hl o p hp hd hz hr (.inr (.inr (.inl vz))) hc
  have sG:p.kind=12:=by omega
  by_cases hc:(Hs.place t p.path).2.2=0
  ·by_cases he:(Hs.place t p.dest).2.2=0
   ·exact Du h I hN hl o p hp hd hz hr sG hc he
   ·exact Dr h I hN hl o p hp hd hz hr sG hc he
  ·exact pD h I hN hl o p hp hd hz hr (.inr (.inr (.inr (.inr sG)))) hc
end
end
section
namespace In
def lL(l:List NodeD)(a:Int):Option NodeD→List NodeD
 |some n=>set l n
 |none=>del l a
theorem vA(n:NodeD)(a:Int)(h:n.id=a): ∀ l:List NodeD,del (set l n) a=del l a
 |[]=>rfl
 |m::r=>by
  have ih:=vA n a h r
  unfold del set at ih ⊢
  rw[laDz,lbNz,lbNz,ih]
  by_cases hm:m.id=n.id
  ·simp[hm,h]
  ·have:¬m.id=a:=fun e=>hm (e.trans h.symm)
   simp[hm,this]
theorem Dx(a b:Int)(l:List NodeD):del (del l a) b=del (del l b) a:=by
 unfold del
 rw[List.filter_filter,List.filter_filter]
 refine List.filter_congr fun m _=> ?_
 exact Bool.and_comm _ _
theorem sH{n:NodeD}{a:Int}(h:n.id≠a): ∀ l:List NodeD,set (del l a) n=del (set l n) a
 |[]=>rfl
 |m::r=>by
  have ih:=sH h r
  unfold del set at ih ⊢
  rw[laDz,lbNz,lbNz]
  by_cases hm:m.id=a
  ·have h1:¬m.id=n.id:=fun e=>h (e.symm.trans hm)
   have q1:(m.id==a)=true:=beq_iff_eq.2 hm
   have q2:(m.id==n.id)=false:=qne.2 h1
   simp only[q1,q2,Bool.not_true,Bool.false_eq_true,if_false]
   exact ih
  ·have q1:(m.id==a)=false:=qne.2 hm
   by_cases h1:m.id=n.id
   ·have q2:(m.id==n.id)=true:=beq_iff_eq.2 h1
    have q3:(n.id==a)=false:=qne.2 h
    simp only[q1,q2,q3,Bool.not_false,if_true,laDz]
    rw[ih]
   ·have q2:(m.id==n.id)=false:=qne.2 h1
    simp only[q1,q2,Bool.not_false,if_true,Bool.false_eq_true,if_false,laDz]
    rw[ih]
theorem Dy{n k:NodeD}(h:n.id≠k.id)(l:List NodeD):set (set l n) k=set (set l k) n:=by
 unfold set
 rw[lbZz,lbZz]
 refine lbVz fun m _=> ?_
 simp only[Function.comp]
 have q1:(n.id==k.id)=false:=qne.2 h
 have q2:(k.id==n.id)=false:=qne.2 h.symm
 by_cases h1:m.id=n.id
 ·have q3:(m.id==n.id)=true:=beq_iff_eq.2 h1
  have q4:(m.id==k.id)=false:=by rw[h1];exact q1
  simp only[q3,q4,q1,if_true,Bool.false_eq_true,if_false]
 ·have q3:(m.id==n.id)=false:=qne.2 h1
  by_cases h2:m.id=k.id
  ·have q4:(m.id==k.id)=true:=beq_iff_eq.2 h2
   simp only[q3,q4,q2,if_true,Bool.false_eq_true,if_false]
  ·have q4:(m.id==k.id)=false:=qne.2 h2
   simp only[q3,q4,Bool.false_eq_true,if_false]
theorem Dz{a b:Int}(hab:a≠b)(r s:Option NodeD)(hr: ∀ n,r=some n→n.id=a)(hs: ∀ n,s=some n→n.id=b)(l:List NodeD):lL (lL l a r) b s=lL (lL l b s) a r:=by
 cases r with
 |none=>
  cases s with
  |none=>exact Dx a b l
  |some n=>exact sH (by rw[hs n rfl];exact fun e=>hab e.symm) l
 |some n=>
  cases s with
  |none=>exact(sH (by rw[hr n rfl];exact hab) l).symm
  |some k=>exact Dy (by rw[hr n rfl,hs k rfl];exact hab) l
theorem Yu{l:List NodeD}{a b:Int}(hab:b≠a){r:Option NodeD}(hr: ∀ n,r=some n→n.id=a):find (lL l a r) b=find l b:=by
 cases r with
 |none=>exact Yr hab
 |some n=>
  have hn:=hr n rfl
  show find (set l n) b=find l b
  unfold find set
  induction l with
  |nil=>rfl
  |cons m t ih=>
   rw[laDz,lbGz,lbGz,ih]
   by_cases hm:m.id=n.id
   ·have q1:(m.id==n.id)=true:=beq_iff_eq.2 hm
    have q2:(n.id==b)=false:=qne.2 (fun e=>hab (e.symm.trans hn))
    have q3:(m.id==b)=false:=by rw[hm];exact q2
    simp only[q1,if_true,q2,q3]
   ·have q1:(m.id==n.id)=false:=qne.2 hm
    simp only[q1,Bool.false_eq_true,if_false]
def kX(n:NodeD):Option NodeD:=if n.links=0∧n.holds=1 then none else some (n.setHolds (n.holds - 1))
def ru(n:NodeD):Int:=if n.links=0∧n.holds=1 then 64+n.data.size else 0
theorem sI{n m:NodeD}(h:kX n=some m):m.id=n.id:=by
 unfold kX at h
 split at h
 ·cases h
 ·cases h
  rfl
theorem YT{t:TabD}{id:Int}{n:NodeD}(hn:find t.nodes id=some n)(h0:n.holds≠0):(drop t id).2=⟨t.quota,t.used - ru n,t.last,lL t.nodes id (kX n)⟩:=by
 have hid:=(find_some hn).2
 have hE:dropE t id=0:=by unfold dropE;rw[hn];simp[h0]
 unfold drop
 rw[hE]
 show gone (holdsDown t id) id=_
 have hf:find (holdsDown t id).nodes id=some (n.setHolds (n.holds - 1)):=by rw[yX hn,if_pos rfl]
 unfold gone
 rw[at_some hf]
 unfold ru kX
 by_cases h:n.links=0∧n.holds=1
 ·rw[if_pos h,if_pos h]
  have q:((n.setHolds (n.holds - 1)).links==0&&(n.setHolds (n.holds - 1)).holds==0)=true:=by
   show(n.links==0&&n.holds - 1==0)=true
   simp[h.1,h.2]
  rw[q,if_pos rfl]
  unfold holdsDown setN
  rw[at_some hn]
  show(⟨t.quota,t.used - (64+n.data.size),t.last,del (set t.nodes (n.setHolds (n.holds - 1))) id⟩:TabD)=_
  rw[vA (n.setHolds (n.holds - 1)) id hid]
  rfl
 ·rw[if_neg h,if_neg h]
  have q:((n.setHolds (n.holds - 1)).links==0&&(n.setHolds (n.holds - 1)).holds==0)=false:=by
   show(n.links==0&&n.holds - 1==0)=false
   rw[Bool.and_eq_false_iff]
   by_cases h1:n.links=0
   ·right
    rw[beq_eq_false_iff_ne]
    intro e
    exact h ⟨h1,by omega⟩
   ·left
    rw[beq_eq_false_iff_ne]
    exact h1
  rw[q,if_neg nofun]
  unfold holdsDown setN
  rw[at_some hn,Int.sub_zero]
  rfl
theorem yY{t:TabD}{id:Int}(hn: ∀ n,find t.nodes id=some n→n.holds=0):(drop t id).2=t:=by
 unfold drop
 have:dropE t id≠0:=by
  unfold dropE
  cases h:find t.nodes id with
  |none=>simp
  |some n=>simp[hn n h]
 rw[qne.2 this]
 rfl
theorem DA(t:TabD)(a b:Int):(drop (drop t a).2 b).2=(drop (drop t b).2 a).2:=by
 by_cases hab:a=b
 ·rw[hab]
 ·by_cases ha: ∃ n,find t.nodes a=some n∧n.holds≠0
  ·obtain⟨n,hn,mr⟩:=ha
   have sJ: ∀ m,kX n=some m→m.id=a:=fun m h=>(sI h).trans (find_some hn).2
   by_cases hb: ∃ k,find t.nodes b=some k∧k.holds≠0
   ·obtain⟨k,hk,hk0⟩:=hb
    have rv: ∀ m,kX k=some m→m.id=b:=fun m h=>(sI h).trans (find_some hk).2
    rw[YT hn mr,YT hk hk0]
    rw[YT (t:=⟨t.quota,t.used - ru n,t.last,lL t.nodes a (kX n)⟩) (n:=k) (by show find (lL t.nodes a (kX n)) b=_;rw[Yu (fun e=>hab e.symm) sJ];exact hk) hk0]
    rw[YT (t:=⟨t.quota,t.used - ru k,t.last,lL t.nodes b (kX k)⟩) (n:=n) (by show find (lL t.nodes b (kX k)) a=_;rw[Yu hab rv];exact hn) mr]
    simp only
    rw[Dz hab _ _ sJ rv]
    congr 1
    omega
   ·have hb': ∀ k,find t.nodes b=some k→k.holds=0:=fun k hk=>Classical.byContradiction fun h=>hb ⟨k,hk,h⟩
    rw[yY hb',YT hn mr]
    refine yY fun k hk=>hb' k ?_
    rw[←hk]
    exact(Yu (fun e=>hab e.symm) sJ).symm
  ·have kz: ∀ k,find t.nodes a=some k→k.holds=0:=fun k hk=>Classical.byContradiction fun h=>ha ⟨k,hk,h⟩
   rw[yY kz]
   by_cases hb: ∃ k,find t.nodes b=some k∧k.holds≠0
   ·obtain⟨k,hk,hk0⟩:=hb
    have rv: ∀ m,kX k=some m→m.id=b:=fun m h=>(sI h).trans (find_some hk).2
    rw[YT hk hk0]
    refine(yY fun n hn=>kz n ?_).symm
    rw[←hn]
    exact(Yu hab rv).symm
   ·have hb': ∀ k,find t.nodes b=some k→k.holds=0:=fun k hk=>Classical.byContradiction fun h=>hb ⟨k,hk,h⟩
    rw[yY hb',yY kz]
theorem jg{l r:List Int}(h:l.Perm r)(t:TabD):l.foldl (fun t id=>(drop t id).2) t=r.foldl (fun t id=>(drop t id).2) t:=
 h.foldl_eq' (fun x _ y _ z=>DA z x y) t
end In
end
section
namespace Pt
theorem ic{q:List ByteArray}{s:ByteArray}(hq: ∀ x∈q,aA x)(hs:aA s):join (joined q) s=joined (q++[s]):=by
 cases q with
 |nil=>
  unfold join
  rw[if_pos (.inl rfl),laJz,dD]
  exact ba_ext (by simp[Cp])
 |cons x r=>
  unfold join
  rw[if_neg (not_or.2 ⟨fun e=>xv (r:=r) (hq x (.head _)) (ZE.2 e),hs.nil⟩)]
  refine ba_ext ?_
  rw[vp (by simp)]
  simp[slash]
end Pt
end
section
namespace In
def Up(t:TabD):Prop:= ∀ a m p n,find t.nodes a=some m→p∈m.names→find t.nodes p.2=some n→n.dir=true→a<p.2
def eY(k i:Int)(t t':TabD):Prop:= ∀ x m',find t'.nodes x=some m'→ ∃ m,find t.nodes x=some m∧m'.dir=m.dir∧ ∀ p∈m'.names,p∈m.names∨(x=k∧p.2=i)
def aD(t t':TabD):Prop:= ∀ x m',find t'.nodes x=some m'→ ∃ m,find t.nodes x=some m∧m'.dir=m.dir∧ ∀ p∈m'.names,p∈m.names
section
variable {N:Nat}{t t' jF:TabD}{k i:Int}
theorem Up.np(h:Up t)(hc:eY k i t t')(hi: ∀ n,find t.nodes i=some n→n.dir=true→k<i):Up t':=by
 intro a m p n ha hp hn hd
 obtain⟨m0,h1,-,h2⟩:=hc a m ha
 obtain⟨n0,h3,h4,-⟩:=hc p.2 n hn
 rcases h2 p hp with h5|⟨rfl,h5⟩
 ·exact h a m0 p n0 h1 h5 h3 (h4▸hd)
 ·rw[h5] at h3 ⊢
  exact hi n0 h3 (h4▸hd)
theorem aD.refl(t:TabD):aD t t:=fun _ m h=>⟨m,h,rfl,fun _ h=>h⟩
theorem aD.trans(h:aD t t')(h':aD t' jF):aD t jF:=fun x m hm=>by
 obtain⟨m1,a1,a2,a3⟩:=h' x m hm
 obtain⟨m2,b1,b2,b3⟩:=h x m1 a1
 exact⟨m2,b1,a2.trans b2,fun p hp=>b3 p (a3 p hp)⟩
theorem aD.np(h:aD t t'):eY k i t t':=fun x m hm=>by
 obtain⟨m1,a1,a2,a3⟩:=h x m hm
 exact⟨m1,a1,a2,fun p hp=> .inl (a3 p hp)⟩
theorem eY.less(h:eY k i t t')(h':aD t' jF):eY k i t jF:=fun x m hm=>by
 obtain⟨m1,a1,a2,a3⟩:=h' x m hm
 obtain⟨m2,b1,b2,b3⟩:=h x m1 a1
 exact⟨m2,b1,a2.trans b2,fun p hp=>b3 p (a3 p hp)⟩
theorem aD.then (h:aD t t')(h':eY k i t' jF):eY k i t jF:=fun x m hm=>by
 obtain⟨m1,a1,a2,a3⟩:=h' x m hm
 obtain⟨m2,b1,b2,b3⟩:=h x m1 a1
 exact⟨m2,b1,a2.trans b2,fun p hp=>(a3 p hp).imp (b3 p) fun h=>h⟩
theorem Up.less(h:Up t)(hl:aD t t'):Up t':=by
 intro a m p n ha hp hn hd
 obtain⟨m0,h1,-,h2⟩:=hl a m ha
 obtain⟨n0,h3,h4,-⟩:=hl p.2 n hn
 exact h a m0 p n0 h1 (h2 p hp) h3 (h4▸hd)
theorem nr(t:TabD)(k:Int):(at_ t k).id=k:=by
 unfold at_
 split
 ·rename_i n h
  exact(find_some h).2
 ·rfl
theorem xC(l:List NodeD)(n:NodeD)(x:Int):find (set l n) x=(find l x).map fun m=>if m.id==n.id then n else m:=by
 unfold find set
 rw[ldFz]
 congr 2
 funext m
 show((if m.id==n.id then n else m).id==x)=(m.id==x)
 split
 ·rename_i h
  have h':m.id=n.id:=by simpa using h
  rw[h']
 ·rfl
theorem vB{n:NodeD}(hn: ∀ m,find t.nodes n.id=some m→n.dir=m.dir∧ ∀ p∈n.names,p∈m.names∨(n.id=k∧p.2=i)):eY k i t (setN t n):=fun x m' h=>by
 have h':find (set t.nodes n) x=some m':=h
 rw[xC] at h'
 cases hf:find t.nodes x with
 |none=>rw[hf] at h';cases h'
 |some m=>
  rw[hf] at h'
  have h2:(if m.id==n.id then n else m)=m':=by simpa using h'
  have hx:=(find_some hf).2
  cases he:m.id==n.id with
  |false=>
   rw[he] at h2
   subst h2
   exact⟨m,rfl,rfl,fun p hp=> .inl hp⟩
  |true=>
   rw[he] at h2
   subst h2
   have he':m.id=n.id:=by simpa using he
   have e2:x=n.id:=hx.symm.trans he'
   subst e2
   obtain⟨h3,h4⟩:=hn m hf
   exact⟨m,rfl,h3,h4⟩
theorem DB{n:NodeD}(hn: ∀ m,find t.nodes n.id=some m→n.dir=m.dir∧ ∀ p∈n.names,p∈m.names):aD t (setN t n):=fun x m' h=>by
 obtain⟨m,h1,h2,h3⟩:=vB (t:=t) (k:=x - 1) (i:=0) (n:=n) (fun m hm=>⟨(hn m hm).1,fun p hp=> .inl ((hn m hm).2 p hp)⟩) x m' h
 exact⟨m,h1,h2,fun p hp=>(h3 p hp).elim (fun h=>h) fun h=>by omega⟩
theorem XB(f:NodeD→NodeD)(hi: ∀ m,(f m).id=m.id)(hd: ∀ m,(f m).dir=m.dir)(hp: ∀ m,∀ p∈(f m).names,p∈m.names)(k:Int):aD t (setN t (f (at_ t k))):=DB fun m hm=>by
 rw[hi,nr] at hm
 rw[at_some hm]
 exact⟨hd m,hp m⟩
theorem bF(dir:Int)(s:ByteArray):aD t (nameOut t dir s):=XB (fun m=>m.setNames (without m.names s)) (fun _=>rfl) (fun _=>rfl) (fun _ _ hp=>(Zo.1 hp).1) dir
theorem cD(id:Int):aD t (linksUp t id):=XB (fun m=>m.setLinks (m.links+1)) (fun _=>rfl) (fun _=>rfl) (fun _ _ hp=>hp) id
theorem DC(id:Int):aD t (linksDown t id):=XB (fun m=>m.setLinks (m.links - 1)) (fun _=>rfl) (fun _=>rfl) (fun _ _ hp=>hp) id
theorem DD(id:Int):aD t (holdsUp t id):=XB (fun m=>m.setHolds (m.holds+1)) (fun _=>rfl) (fun _=>rfl) (fun _ _ hp=>hp) id
theorem DE(id:Int):aD t (holdsDown t id):=XB (fun m=>m.setHolds (m.holds - 1)) (fun _=>rfl) (fun _=>rfl) (fun _ _ hp=>hp) id
theorem vC(id:Int)(v:ByteArray):aD t (dataOf t id v):=XB (fun m=>m.setData v) (fun _=>rfl) (fun _=>rfl) (fun _ _ hp=>hp) id
theorem bz(dir:Int)(s:ByteArray)(id:Int):eY dir id t (nameIn t dir s id):=vB (n:=(at_ t dir).setNames (with_ (at_ t dir).names s id)) fun m hm=>by
 have hm':find t.nodes (at_ t dir).id=some m:=hm
 rw[nr] at hm'
 rw[at_some hm']
 refine⟨rfl,fun p hp=> ?_⟩
 rcases Xq.1 hp with rfl|hp
 ·exact .inr ⟨(find_some hm').2,rfl⟩
 ·exact .inl (Zo.1 hp).1
theorem sK(id:Int):aD t (gone t id):=fun x m h=>by
 unfold gone at h
 split at h
 ·have h':find (del t.nodes id) x=some m:=h
  unfold find del at h'
  rw[lcZz] at h'
  refine⟨m, ?_,rfl,fun _ hp=>hp⟩
  have h1:=lcOz h'
  have h2:m.id=x:=by
   have:=h1
   simp only[Bool.not_eq_true',beq_eq_false_iff_ne,beq_iff_eq,decide_eq_true_eq] at this
   exact this.2
  have h3:x≠id:=by
   have:=h1
   simp only[Bool.not_eq_true',beq_eq_false_iff_ne,beq_iff_eq,decide_eq_true_eq] at this
   rw[←h2];exact this.1
  have e:(fun a:NodeD=>decide ((!a.id==id)=true∧(a.id==x)=true))=fun a=>a.id==x:=by
   funext a
   cases hx:a.id==x with
   |false=>simp
   |true=>
    have:a.id=x:=by simpa using hx
    rw[this]
    simp[h3]
  rw[e] at h'
  exact h'
 ·exact⟨m,h,rfl,fun _ hp=>hp⟩
theorem bO(dir:Int)(s:ByteArray):aD t (loses t dir s):=((bF dir s).trans (DC _)).trans (sK _)
theorem eQ(dir:Int)(s:ByteArray):aD t (unlink t dir s).2:=by
 unfold unlink
 split
 ·exact bO dir s
 ·exact aD.refl t
theorem eR(dir:Int)(s:ByteArray):aD t (remove t dir s).2:=by
 unfold remove
 split
 ·exact bO dir s
 ·exact aD.refl t
theorem vD(id n:Int):aD t (sizedT t id n):=vC id (resized (at_ t id).data n.toNat)
theorem fD(id a:Int)(s:ByteArray):aD t (write t id a s).2:=by
 unfold write
 split
 ·show aD t (writeT t id a s)
  unfold writeT
  split
  ·exact aD.refl t
  ·exact(vD id _).trans (vC id _)
 ·exact aD.refl t
theorem fE(id n:Int):aD t (trunc t id n).2:=by
 unfold trunc
 split
 ·exact vD id n
 ·exact aD.refl t
theorem gr(id:Int):aD t (hold t id).2:=by
 unfold hold
 split
 ·exact DD id
 ·exact aD.refl t
theorem en(id:Int):aD t (drop t id).2:=by
 unfold drop
 split
 ·exact(DE id).trans (sK id)
 ·exact aD.refl t
theorem lT(h:Up t)(id dir:Int)(s:ByteArray):Up (link t id dir s).2:=by
 unfold link
 cases he:linkE t id dir s==0 with
 |false=>exact h
 |true=>
  have he':linkE t id dir s=0:=by simpa using he
  unfold linkE at he'
  cases h1:getE t id false==0 with
  |true=>
   obtain⟨n,hn,hnd⟩:=getE_ok (t:=t) (id:=id) (dir:=false) (by simpa using h1)
   exact h.np (eY.less (bz dir s id) (cD id)) fun m hm hd=>by rw[hn] at hm;cases hm;rw[hnd] at hd;cases hd
  |false=>rw[h1] at he';simp at he' h1;exact absurd he' h1
theorem j8(h:Up t)(dir:Int)(s:ByteArray)(tod:Int)(as_:ByteArray):Up (rename t dir s tod as_).2:=by
 unfold rename
 cases he:renameE t dir s tod as_==0 with
 |false=>exact h
 |true=>
  obtain⟨h1,h2,h3⟩:=renameE_ok (t:=t) (dir:=dir) (s:=s) (tod:=tod) (as_:=as_) (by simpa using he)
  obtain⟨_,d,n,hd,hdd,hl,hN,hn,hnd⟩:=unlinkE_ok h1
  have key: ∀ t1,aD t t1→Up (renameIn t1 dir s tod as_ (findN t dir s)):=fun t1 hl1=>by
   refine h.np ((hl1.trans (bF dir s)).then (bz tod as_ (findN t dir s))) fun m hm hmd=> ?_
   rw[hN,hn] at hm
   cases hm
   rw[hnd] at hmd
   cases hmd
  show Up (renameT t dir s tod as_)
  unfold renameT
  split
  ·exact h
  split
  ·exact key t (aD.refl t)
  ·exact key _ (bO tod as_)
theorem jG(I:Inv N t)(h:Up t)(dir:Int)(s:ByteArray)(isDir:Bool):Up (make t dir s isDir).2.2:=by
 unfold make
 cases he:makeE t dir s==0 with
 |false=>exact h
 |true=>
  show Up (makeT t dir s isDir)
  have hc:=bz (t:=t) dir s (t.last+1)
  have hne: ∀ m∈(nameIn t dir s (t.last+1)).nodes,m.id≠(⟨t.last+1,isDir,1,0,ByteArray.empty,[]⟩:NodeD).id:=fun m hm=>by
   have hm':m∈set t.nodes ((at_ t dir).setNames (with_ (at_ t dir).names s (t.last+1))):=hm
   unfold set at hm'
   obtain⟨y,hy,e⟩:=laKz.1 hm'
   have hp:=(I.pos y hy).2
   have:m.id=y.id:=by
    rw[←e]
    split
    ·rename_i hh
     exact(by simpa using hh:y.id=_).symm
    ·rfl
   show m.id≠t.last+1
   omega
  have ry:=yD hne
  have hle: ∀ x m,find (nameIn t dir s (t.last+1)).nodes x=some m→x≤t.last:=fun x m hx=>by
   obtain⟨m0,g1,-,-⟩:=hc x m hx
   obtain⟨g2,g3⟩:=find_some g1
   have:=(I.pos m0 g2).2
   omega
  intro a m p n ha hp hn hd
  have kz:find ((nameIn t dir s (t.last+1)).nodes++[⟨t.last+1,isDir,1,0,ByteArray.empty,[]⟩]) a=some m:=ha
  have hn':find ((nameIn t dir s (t.last+1)).nodes++[⟨t.last+1,isDir,1,0,ByteArray.empty,[]⟩]) p.2=some n:=hn
  rw[ry] at kz hn'
  split at kz
  ·cases kz
   cases hp
  ·have hal:=hle a m kz
   split at hn'
   ·rename_i e
    rw[e]
    show a<t.last+1
    omega
   ·rename_i hpn
    obtain⟨m0,g1,-,g2⟩:=hc a m kz
    obtain⟨n0,g3,g4,-⟩:=hc p.2 n hn'
    rcases g2 p hp with g5|⟨-,g5⟩
    ·exact h a m0 p n0 g1 g5 g3 (g4▸hd)
    ·exact absurd g5 hpn
theorem nt(q:Int):Up (new q):=fun a m p n ha hp _ _=>by
 have:=(find_some ha).1
 have e:m=⟨1,true,1,0,ByteArray.empty,[]⟩:=by simpa[new] using this
 subst e
 cases hp
end
/-! ### what lies below a directory -/
def aM(t:TabD)(id:Int):List Int:=((at_ t id).names.map Prod.snd).filter fun i=>(at_ t i).dir
inductive Reach (t:TabD):Int→Int→Prop where
 |refl (a:Int):Reach t a a
 |step {a b c:Int} (h:Reach t a b) (hc:c∈aM t b):Reach t a c
section
variable {N:Nat}{t:TabD}
theorem ZZ{id c:Int}:c∈aM t id↔ ∃ p∈(at_ t id).names,p.2=c∧(at_ t c).dir=true:=by
 unfold aM
 rw[lbHz,laKz]
 constructor
 ·rintro⟨⟨p,hp,rfl⟩,hd⟩
  exact⟨p,hp,rfl,hd⟩
 ·rintro⟨p,hp,rfl,hd⟩
  exact⟨⟨p,hp,rfl⟩,hd⟩
theorem an{id:Int}{p:ByteArray×Int}(hp:p∈(at_ t id).names):find t.nodes id=some (at_ t id):=by
 unfold at_ at hp ⊢
 cases hf:find t.nodes id with
 |none=>rw[hf] at hp;cases hp
 |some n=>rfl
theorem rz(h:Up t){a c:Int}(hc:c∈aM t a):a<c:=by
 obtain⟨p,hp,rfl,hd⟩:=ZZ.1 hc
 refine h a _ p _ (an hp) hp ?_ hd
 unfold at_ at hd ⊢
 cases hf:find t.nodes p.2 with
 |none=>rw[hf] at hd;cases hd
 |some n=>rfl
theorem Reach.le(h:Up t){a b:Int}(r:Reach t a b):a≤b:=by
 induction r with
 |refl=>exact Int.le_refl _
 |step _ hc ih=>have:=rz h hc;omega
theorem Reach.trans{a b c:Int}(h:Reach t a b)(r:Reach t b c):Reach t a c:=by
 induction r with
 |refl=>exact h
 |step _ hc ih=>exact ih.step hc
theorem DF{d:List (ByteArray×Int)}{i:Int}:cntN d i=((d.map Prod.snd).count i):=by
 unfold cntN List.count
 rw[List.countP_map]
 rfl
theorem sL(I:Inv N t){c:Int}{n:NodeD}(hn:find t.nodes c=some n)(hd:n.dir=true):cnt t.nodes c≤1:=by
 obtain⟨nm,ni⟩:=find_some hn
 have h1:=I.links n nm
 have h2:=(I.alive n nm (by have:=(I.pos n nm).1;omega)).2 hd
 rw[ni] at h1
 have h3:0≤rootI c:=by unfold rootI;split<;> decide
 omega
theorem bK{c:Int}(hd:(at_ t c).dir=true):find t.nodes c=some (at_ t c):=by
 unfold at_ at hd ⊢
 cases hf:find t.nodes c with
 |none=>rw[hf] at hd;cases hd
 |some n=>rfl
theorem vE{f:NodeD→Nat}: ∀ {l:List NodeD},asc l→ ∀ {a b:NodeD},a∈l→b∈l→a.id≠b.id→f a+f b≤(l.map f).sum
 |[],_,_,_,h,_,_=>by cases h
 |y::r,hs,a,b,ha,hb,hne=>by
  obtain⟨h1,h2⟩:=laVz.1 hs
  rw[laDz,lcCz]
  rcases laBz.1 ha with rfl|kz
  ·rcases laBz.1 hb with rfl|hb'
   ·exact absurd rfl hne
   ·have:=le_sum (f:=f) hb';omega
  ·rcases laBz.1 hb with rfl|hb'
   ·have:=le_sum (f:=f) kz;omega
   ·have:=vE (f:=f) h2 kz hb' hne;omega
theorem DG(I:Inv N t)(a:Int):(aM t a).Nodup:=by
 rw[List.nodup_iff_count]
 intro c
 cases hd:(at_ t c).dir with
 |false=>
  rw[List.count_eq_zero.2]
  ·exact Nat.zero_le _
  ·intro hc
   obtain⟨-,-,-,h⟩:=ZZ.1 hc
   rw[hd] at h
   cases h
 |true=>
  have h1:(aM t a).count c≤((at_ t a).names.map Prod.snd).count c:=(List.filter_sublist).count_le c
  refine Nat.le_trans h1 ?_
  rw[←DF]
  by_cases hn:(at_ t a).names=[]
  ·rw[hn];exact Nat.zero_le _
  ·obtain⟨p,hp⟩:=List.exists_mem_of_ne_nil _ hn
   have hf:=an hp
   refine Nat.le_trans ?_ (sL I (bK hd) hd)
   exact le_sum (f:=fun n=>cntN n.names c) (find_some hf).1
theorem XD(I:Inv N t){a b c:Int}(ha:c∈aM t a)(hb:c∈aM t b):a=b:=by
 obtain⟨p,hp,e1,hd⟩:=ZZ.1 ha
 obtain⟨q,hq,e2,-⟩:=ZZ.1 hb
 have fa:=an hp
 have fb:=an hq
 by_cases hne:a=b
 ·exact hne
 ·have h1:=vE (f:=fun n=>cntN n.names c) I.asc (find_some fa).1 (find_some fb).1 (by rw[nr,nr];exact hne)
  have h2:=sL I (bK hd) hd
  have k1:0<cntN (at_ t a).names c:=ldAz.2 ⟨p,hp,by simpa using e1⟩
  have k2:0<cntN (at_ t b).names c:=ldAz.2 ⟨q,hq,by simpa using e2⟩
  have h3:cntN (at_ t a).names c+cntN (at_ t b).names c≤cnt t.nodes c:=h1
  omega
theorem DH(I:Inv N t){a b x:Int}(ha:Reach t a x)(hb:Reach t b x):Reach t a b∨Reach t b a:=by
 induction ha with
 |refl=>exact .inr hb
 | @step y x h hc ih=>
  cases hb with
  |refl=>exact .inl (h.step hc)
  | @step y' _ h' hc'=>
   have:=XD I hc hc'
   subst this
   exact ih h'
theorem DI{a b:Int}(h:Reach t a b)(hne:a≠b): ∃ y,Reach t a y∧b∈aM t y:=by
 cases h with
 |refl=>exact absurd rfl hne
 |step h hc=>exact⟨_,h,hc⟩
theorem DJ(I:Inv N t)(h:Up t){a c d x:Int}(hc:c∈aM t a)(hd:d∈aM t a)(hne:c≠d)(h1:Reach t c x)(h2:Reach t d x):False:=by
 have key: ∀ c d,c∈aM t a→d∈aM t a→c≠d→¬Reach t c d:=fun c d hc hd hne hr=>by
  obtain⟨y,hy,bn⟩:=DI hr hne
  have:=XD I bn hd
  subst this
  have k1:=hy.le h
  have k2:=rz h hc
  omega
 rcases DH I h1 h2 with hr|hr
 ·exact key c d hc hd hne hr
 ·exact key d c hd hc (Ne.symm hne) hr
def below(t:TabD):Nat→Int→List Int
 |0,id=>[id]
 |k+1,id=>id::(aM t id).flatMap (below t k)
theorem Yq: ∀ (k:Nat) (id x:Int),x∈below t k id→Reach t id x
 |0,id,x,h=>by
  have:x=id:=by simpa[below] using h
  subst this
  exact .refl _
 |k+1,id,x,h=>by
  unfold below at h
  rcases laBz.1 h with rfl|h
  ·exact .refl _
  ·obtain⟨c,hc,hx⟩:=laZz.1 h
   exact((Reach.refl id).step hc).trans (Yq k c x hx)
theorem vF(I:Inv N t)(h:Up t): ∀ (k:Nat) (id:Int),(below t k id).Nodup
 |0,_=>by simp[below]
 |k+1,id=>by
  unfold below
  rw[laTz]
  constructor
  ·intro hm
   obtain⟨c,hc,hx⟩:=laZz.1 hm
   have h1:=(Yq k c id hx).le h
   have h2:=rz h hc
   omega
  ·unfold List.Nodup
   rw[List.pairwise_flatMap]
   refine⟨fun c _=>vF I h k c, ?_⟩
   have hn:=DG I id
   have hm: ∀ c∈aM t id,c∈aM t id:=fun _ h=>h
   refine List.Pairwise.imp_of_mem (R:=fun a b=>a≠b) (fun {c d} hc hd hne x hx y hy e=> ?_) hn
   subst e
   exact DJ I h hc hd hne (Yq k c x hx) (Yq k d x hy)
theorem sM{g:Int→Nat}: ∀ {V ids:List Int},V.Nodup→(∀ x∈V,g x≠0→x∈ids)→(V.map g).sum≤(ids.map g).sum
 |[],_,_,_=>Nat.zero_le _
 |x::V,ids,hn,hs=>by
  obtain⟨h1,h2⟩:=laTz.1 hn
  rw[laDz,lcCz]
  by_cases hg:g x=0
  ·rw[hg]
   have:=sM (g:=g) h2 fun y hy=>hs y (.tail _ hy)
   omega
  ·have hx:=hs x (.head _) hg
   have hp:=(List.perm_cons_erase hx).map g
   have:=sM (g:=g) (ids:=ids.erase x) h2 fun y hy oE=>(List.mem_erase_of_ne (fun e:y=x=>h1 (by rw[←e];exact hy))).2 (hs y (.tail _ hy) oE)
   rw[hp.sum_nat]
   rw[laDz,lcCz]
   omega
theorem ie(I:Inv N t)(h:Up t)(k:Nat)(id:Int):((below t k id).map fun i=>(at_ t i).names.length).sum≤tot t.nodes:=by
 refine Nat.le_trans (sM (ids:=t.nodes.map (·.id)) (vF I h k id) fun x _ hx=> ?_) ?_
 ·cases hq:(at_ t x).names with
  |nil=>rw[hq] at hx;exact absurd rfl hx
  |cons p r=>
   have hf:=an (t:=t) (id:=x) (p:=p) (by rw[hq];exact .head _)
   exact laKz.2 ⟨_,(find_some hf).1,nr t x⟩
 ·unfold tot
  rw[lbZz]
  refine Nat.le_of_eq (congrArg List.sum (lbVz fun n hn=> ?_))
  show(at_ t n.id).names.length=n.names.length
  rw[at_some (find_asc I.asc hn)]
end
end In
end
section
theorem zV{α:Type}{l l':List α}(h: ∀ [DecidableEq α] (x:α),l.count x=l'.count x):l.Perm l':=by
 classical exact List.perm_iff_count.2 fun x=>h x
structure ah where
 path:ByteArray
 dir:Bool
 data:ByteArray
def ah.cells(f:ah):List Value:=[.string f.path,.bool f.dir,.string f.data]
namespace Fs
theorem ig{N:Nat}{d:FsD}{t:TabD}(h:Inv N d)(ht:In.Inv N t):Inv N ⟨t,d.h⟩:=inv_tbl h ht (Nat.le_refl N)
section
variable {N:Nat}{d:FsD}
theorem vG(h:In.Up d.t)(o id:Int):In.Up (gives d o id).2.t:=by
 unfold gives
 split<;> exact h.less (In.gr id)
theorem vH(h:In.Up d.t)(o:Int)(n:Nat):In.Up (closes d o n).t:=h.less (In.en _)
theorem DK(I:Inv N d)(h:In.Up d.t)(o:Int)(p:OpD):In.Up (opens d o p).2.t:=by
 unfold opens
 split
 ·exact h
 split
 ·exact h
 split
 ·have hm:=In.jG I.tbl h (at_ d p.path).1.1 (at_ d p.path).1.2 false
  split
  ·exact hm
  ·exact vG (d:=⟨(In.make d.t (at_ d p.path).1.1 (at_ d p.path).1.2 false).2.2,d.h⟩) hm o _
 split
 ·exact h
 ·exact vG h o _
theorem DL(h:In.Up d.t)(o:Int)(p:OpD):In.Up (handled d o p).2.t:=by
 unfold handled
 split
 ·exact h
 split
 ·exact vH h o _
 split
 ·exact h
 split
 ·exact h.less (In.fD _ _ _)
 split
 ·exact h.less (In.fE _ _)
 ·exact h
theorem DM(I:Inv N d)(h:In.Up d.t)(p:OpD):In.Up (named d p).2:=by
 unfold named namedAt
 split
 ·exact h
 split
 ·exact In.jG I.tbl h _ _ true
 split
 ·exact h.less (In.eR _ _)
 split
 ·exact h.less (In.eQ _ _)
 split
 ·split
  ·exact h
  split
  ·exact h
  ·exact In.lT h _ _ _
 split
 ·exact h
 ·exact In.j8 h _ _ _ _
theorem mB(I:Inv N d)(h:In.Up d.t)(o:Int)(p:OpD):In.Up (do_ d o p).2.t:=by
 unfold do_
 split
 ·exact h
 split
 ·exact DK I h o p
 split
 ·exact DL h o p
 split
 ·exact h
 ·exact DM I h p
theorem vI(o:Int): ∀ (l:List Int) (n:Nat) (d:FsD),In.Up d.t→In.Up (exitL o l n d).t
 |[],_,_,h=>h
 |i::r,n,d,h=>by
  unfold exitL
  refine vI o r (n+1) _ ?_
  split
  ·exact vH h o n
  ·exact h
theorem lU(h:In.Up d.t)(o:Int):In.Up (exit d o).t:=vI o _ 0 d h
theorem DO{h:List (Int×List Int)}{o:Int}:(del h o).length+(if(h.find? fun p=>p.1==o).isSome then 1 else 0)≤h.length:=by
 induction h with
 |nil=>simp[del]
 |cons y r ih=>
  unfold del at ih ⊢
  rw[lbNz,lbGz]
  cases hy:y.1==o with
  |true=>
   have:=lbYz (fun p:Int×List Int=> !(p.1==o)) r
   simp only[Bool.not_true,Bool.false_eq_true,if_false,Option.isSome_some,if_true,laPz]
   omega
  |false=>
   simp only[Bool.not_false,if_true,laPz]
   omega
theorem xA(I:Inv N d){o:Int}{n:Nat}(hn:(hOf d.h o).getD n 0≠0):Inv N (closes d o n):=by
 have hr:=zdi I.rows (o:=o) (yW (hOf_row I o) n (v:=0) (by omega))
 have hN:=I.len
 have hs:(d.h.find? fun p=>p.1==o).isSome=true:=by
  unfold hOf at hn
  cases hf:d.h.find? fun p=>p.1==o with
  |some p=>rfl
  |none=>
   rw[hf] at hn
   refine absurd ?_ hn
   show z9.getD n 0=0
   unfold z9
   match n with
   |0|1|2|3|4|5|6|7|8=>rfl
   |n+9=>rfl
 have hl:(put d.h o ((hOf d.h o).set n 0)).length≤N:=by
  unfold put
  rw[XC]
  have:=DO (h:=d.h) (o:=o)
  rw[hs] at this
  simp only[if_true] at this
  omega
 refine⟨In.inv_drop I.tbl _, ?_, ?_⟩
 ·unfold closes shut
  simp only
  split
  ·exact zhj hr o
  ·exact hr
 ·unfold closes shut
  simp only
  split
  ·exact Nat.le_trans (lbYz _ _) hl
  ·exact hl
theorem DP{h:List (Int×List Int)}{o:Int}{l:List Int}(hn:(h.find? fun p=>p.1==o)=none)(o':Int):hOf (ins (o,l) h) o'=if o'=o then l else hOf h o':=by
 induction h with
 |nil=>
  unfold ins hOf
  rw[lbGz]
  by_cases e:o'=o
  ·subst e;simp
  ·have:(o==o')=false:=qne.2 fun h=>e h.symm
   simp[this,e]
 |cons y r ih=>
  rw[lbGz] at hn
  cases hy:y.1==o with
  |true=>rw[hy] at hn;cases hn
  |false=>
   rw[hy] at hn
   have DQ:y.1≠o:=by simpa using hy
   have pE:=ih hn
   unfold ins
   split
   ·unfold hOf
    rw[lbGz]
    by_cases e:o'=o
    ·subst e;simp
    ·have:(o==o')=false:=qne.2 fun h=>e h.symm
     simp[this,e]
   ·unfold hOf at pE ⊢
    rw[lbGz,lbGz]
    cases hy':y.1==o' with
    |true=>
     have e:y.1=o':=by simpa using hy'
     rw[if_neg (fun h=>DQ (e.trans h))]
    |false=>exact pE
theorem Xh(h:List (Int×List Int))(o o':Int):((del h o).find? fun p=>p.1==o')=if o'=o then none else h.find? fun p=>p.1==o':=by
 unfold del
 rw[lcZz]
 split
 ·rename_i e
  subst e
  rw[lcNz]
  intro p _
  simp
 ·rename_i e
  congr 1
  funext p
  cases hp:p.1==o' with
  |false=>simp
  |true=>
   have:p.1=o':=by simpa using hp
   simp[this,e]
theorem fg(h:List (Int×List Int))(o:Int)(l:List Int)(o':Int):hOf (put h o l) o'=if o'=o then l else hOf h o':=by
 unfold put
 rw[DP (by rw[Xh,if_pos rfl])]
 split
 ·rfl
 ·rename_i e
  unfold hOf
  rw[Xh,if_neg e]
theorem DR(h:List (Int×List Int))(o o':Int):hOf (del h o) o'=if o'=o then z9 else hOf h o':=by
 unfold hOf
 rw[Xh]
 by_cases e:o'=o
 ·rw[if_pos e,if_pos e]
 ·rw[if_neg e,if_neg e]
theorem bA(h:List (Int×List Int))(o:Int)(l:List Int)(o':Int):hOf (shut h o l) o'=if o'=o then l else hOf h o':=by
 unfold shut
 split
 ·rename_i e
  rw[DR,fg]
  split
  ·exact e.symm
  ·rfl
 ·exact fg h o l o'
theorem sN(o:Int): ∀ (l:List Int) (n:Nat) (d:FsD),Inv N d→(∀ j,l[j]? =(hOf d.h o)[n+j]?)→Inv N (exitL o l n d)
 |[],_,_,I,_=>I
 |i::r,n,d,I,hl=>by
  unfold exitL
  have h0:=hl 0
  rw[lbPz,Nat.add_zero] at h0
  split
  ·rename_i hi
   refine sN o r (n+1) _ (xA I (n:=n) (by rw[lbDz,←h0];exact hi)) fun j=> ?_
   have hj:=hl (j+1)
   rw[lbFz] at hj
   unfold closes
   simp only
   rw[bA,if_pos rfl,ldHz (by omega),hj]
   congr 1
   omega
  ·refine sN o r (n+1) _ I fun j=> ?_
   have hj:=hl (j+1)
   rw[lbFz] at hj
   rw[hj]
   congr 1
   omega
theorem bP(I:Inv N d)(o:Int):Inv N (exit d o):=sN o _ 0 d I fun j=>by rw[Nat.zero_add]
/-! ### all files -/
def under(t:TabD):Nat→Int→ByteArray→List ah
 |0,_,_=>[]
 |k+1,id,dir=>(In.at_ t id).names.flatMap fun p=>⟨Pt.join dir p.1,(In.at_ t p.2).dir,(In.at_ t p.2).data⟩::under t k p.2 (Pt.join dir p.1)
def files(d:FsD):List ah:=under d.t d.t.last.toNat 1 ⟨#[]⟩
theorem DS{t:TabD}{id:Int}(h:(In.at_ t id).names=[])(k:Nat)(dir:ByteArray):under t k id dir=[]:=by
 cases k with
 |zero=>rfl
 |succ k=>unfold under;rw[h];rfl
theorem DT{t:TabD}(I:In.Inv N t){id:Int}(h:(In.at_ t id).dir=false):(In.at_ t id).names=[]:=by
 cases hq:(In.at_ t id).names with
 |nil=>rfl
 |cons p r=>
  have hf:=In.an (t:=t) (id:=id) (p:=p) (by rw[hq];exact .head _)
  rw[I.files _ (In.find_some hf).1 h] at hq
  cases hq
theorem vJ{t:TabD}{f:ByteArray×Int→Nat}{g:Int→Nat}(hf: ∀ p,f p≤if(In.at_ t p.2).dir then g p.2 else 0): ∀ l:List (ByteArray×Int),(l.map fun p=>1+f p).sum≤l.length+(((l.map Prod.snd).filter fun i=>(In.at_ t i).dir).map g).sum
 |[]=>by simp
 |p::r=>by
  have ih:=vJ hf r
  have hp:=hf p
  rw[laDz,lcCz,laDz,lbNz,laPz]
  cases hd:(In.at_ t p.2).dir with
  |true=>
   rw[hd] at hp
   simp only[if_true] at hp ⊢
   rw[laDz,lcCz]
   omega
  |false=>
   rw[hd] at hp
   simp only[Bool.false_eq_true,if_false] at hp ⊢
   omega
theorem vK{α:Type}: ∀ l:List α,(l.map fun _=>1).sum=l.length
 |[]=>rfl
 |_::r=>by rw[laDz,lcCz,vK r,laPz];omega
theorem vL{α:Type}(f:α→List Nat): ∀ l:List α,(l.flatMap f).sum=(l.map fun a=>(f a).sum).sum
 |[]=>rfl
 |a::r=>by rw[laOz,ldUz,vL f r,laDz,lcCz]
theorem vM{t:TabD}(I:In.Inv N t): ∀ (k:Nat) (id:Int) (dir:ByteArray),(under t (k+1) id dir).length≤((In.below t k id).map fun i=>(In.at_ t i).names.length).sum
 |0,id,dir=>by
  unfold under
  rw[List.length_flatMap]
  refine Nat.le_trans (Nat.le_of_eq ?_) (Nat.le_of_eq (show(In.at_ t id).names.length=_ by simp[In.below]))
  exact vK _
 |k+1,id,dir=>by
  unfold under
  rw[List.length_flatMap]
  simp only[laPz]
  unfold In.below
  rw[laDz,lcCz,List.map_flatMap]
  have key:=vJ (t:=t) (f:=fun p=>(under t (k+1) p.2 (Pt.join dir p.1)).length) (g:=fun c=>((In.below t k c).map fun i=>(In.at_ t i).names.length).sum) (fun p=>by
   split
   ·exact vM I k p.2 _
   ·rename_i hd
    rw[DS (DT I (by simpa using hd))]
    exact Nat.zero_le _) (In.at_ t id).names
  have e1:((In.at_ t id).names.map fun p=>(under t (k+1) p.2 (Pt.join dir p.1)).length+1)=(In.at_ t id).names.map fun p=>1+(under t (k+1) p.2 (Pt.join dir p.1)).length:=lbVz fun p _=>Nat.add_comm _ _
  rw[e1]
  refine Nat.le_trans key (Nat.le_of_eq ?_)
  congr 1
  unfold In.aM
  rw[vL]
theorem ck(I:Inv N d)(h:In.Up d.t):(files d).length≤N:=by
 unfold files
 have h1:=I.tbl.last
 obtain⟨k,hk⟩: ∃ k,d.t.last.toNat=k+1:=⟨d.t.last.toNat - 1,by omega⟩
 rw[hk]
 exact Nat.le_trans (vM I.tbl k 1 _) (Nat.le_trans (In.ie I.tbl h k 1) I.tbl.tot)
end
end Fs
end
section
open Go.RowKit Go.Maps Go.WideElems Go.ChangeShapes Go.WideShapes Go.ChangeMaps Go.MapKept
abbrev j9(es:Array MapEntry)(clock:Nat):Res:= .obj fun o=>o= .map es clock
abbrev nv(b since:Nat)(seen:Array Nat)(c0:Nat):Res:= .obj fun o=>o= .mapIter (some b) since seen c0
structure mC (P:Program) (k:TypeId) (l:List (Lit×Value)) (es:Array MapEntry) (clock since:Nat) (seen:Array Nat) (c0:Nat) (left:Lit→Bool) (cnt:Nat):Prop where
 fit:Go.WideElems.Fit P k Ze es clock
 size:es.size≤l.length
 eq:Zh l= .map ((es.toList.map (rg P k Ze)).foldr DataW.insert [])
 old: ∀ x∈es.toList,x.born<since
 cnt:(leftOf es seen).size=cnt
 jH: ∀ x∈es.toList,left (rg P k Ze x).1= !seen.contains x.born
 kY: ∀ kl,left kl=true→ ∃ x∈es.toList,(rg P k Ze x).1=kl
 s0:since≤c0
 s1:since≤clock
section
variable {P:Program}{K:Act→World→Prop}{a:Act}{w w0:World}{ops:Array Oper}{l:List (Oper×Nat)}{c:Nat}{o:Oper}{F:List Nat}{L L' Lr:List Ent}{b r:Nat}{ty kt et:TypeId}{x y:Operand}{ow:Bool}{S:World→Prop}{m:List (Lit×Value)}{es:Array MapEntry}{clock since c0 cnt:Nat}{seen:Array Nat}{left:Lit→Bool}
theorem mC.to(h:mC P kt m es clock since seen c0 left cnt)(hb:(j9 es clock).holds w.heap[b]?)(hr:(nv b since seen c0).holds w.heap[r]?):w.ranges P kt Ze b r m.length (Zh m) left cnt:=by
 obtain⟨o,ho,rfl⟩:=hb
 obtain⟨q,hq,rfl⟩:=hr
 exact⟨es,clock,since,seen,c0,ho,h.fit,h.size,h.eq,hq,h.old,h.cnt,h.jH,h.kY,h.s0,h.s1⟩
theorem St.range(hx:o.op= .range ty x)(hM:St w0 F w L)(hc:(c==2||c==3)=true)(hw:Region.wanted o (yielded ops a.tmps)=true)(hev:a.eval x= .map (some b))(hK:Keyed P kt)(ht:P.underlying ty=some (.map kt et)){L':Array MapEntry→Nat→List Ent}(hu: ∀ es clock,Upd L (b,ow,mapR P kt m) (b,ow,j9 es clock) (L' es clock))
  (h: ∀ w' r es clock since,mC P kt m es clock since #[] since (Maps.has (Zh m)) m.length→St w0 F w' ((r,true,nv b since #[] since)::L' es clock)→zg P ops K (Held w0 F []) l (a.put o.dst (.pointer (some ⟨r,0,none⟩))) w'):zg P ops K (Held w0 F []) ((o,c)::l) a w:=by
 have hb0:=ZU (hM.holds _ (hu #[] 0).mem)
 obtain⟨es,clock,hb,Ft,hs,hD⟩:=hb0
 have hM':St w0 F w (L' es clock):=hM.weaken (hu es clock) (fun _=>⟨_,hb,rfl⟩)
 have hrun:(execOp a.eval o).run P w= .ok (.value (.pointer (some ⟨w.heap.size,0,none⟩))) (w.alloc (.mapIter (some b) clock #[] clock)):=by
  unfold execOp
  simp only[hx,hev,Sem.run_bind,Sem.run_pure,run_range_map w ty kt et b es clock ht hb,Result.andThen_ok]
 have hown:w.ownsMap P kt Ze b m.length (Zh m):=⟨es,clock,hb,Ft,hs,hD⟩
 have hR:mC P kt m es clock clock #[] clock (Maps.has (Zh m)) m.length:=by
  obtain⟨w',gu,pF,hg,-⟩:=hown.range hK ht
  rw[run_range_map w ty kt et b es clock ht hb] at gu
  injection gu with e1 e2
  subst e2
  obtain⟨es',clock',sO,mD,IX,hb',F',hs',DU,mu,hold,hc',hl1,hl2,h0,h1⟩:=pF
  rw[(MapKept.heap_alloc w _).1] at mu
  rw[(MapKept.heap_alloc w _).2 b (zA.lt (ZU (hM.holds _ (hu #[] 0).mem))),hb] at hb'
  injection hb' with hb'
  injection hb' with e3 e4
  injection mu with mu
  injection mu with e5 e6 e7 e8
  subst e3 e4 e6 e7 e8
  exact⟨F',hs',DU,hold,by rw[hc',yl],hl1,hl2,h0,h1⟩
 exact zM hc hw hrun (.inl rfl) (fun _ hh=>⟨hh.only.alloc _,nofun⟩) (h _ _ es clock clock hR (hM'.push _ ⟨_,rfl,rfl⟩))
theorem St.next(hx:o.op= .next x false)(hM:St w0 F w L)(hc:(c==2||c==3)=true)(hw:Region.wanted o (yielded ops a.tmps)=true)(hev:a.eval x= .pointer (some ⟨r,0,none⟩))(hK:Keyed P kt)(hm:(b,ow,j9 es clock)∈L){L':Array Nat→Nat→List Ent}(hu: ∀ s q,Upd L (r,true,nv b since seen c0) (r,true,nv b since s q) (L' s q))(hR:mC P kt m es clock since seen c0 left cnt)
  (h0:cnt=0→(∀ kl,left kl=false)→zg P ops K (Held w0 F []) l (a.put o.dst (.tuple #[.bool false])) w)
  (h: ∀ w' e kl lV,e∈es.toList→keyOf P kt e.key=some kl→left kl=true→(∀ z,yb m kl z=e.val)→mC P kt m es clock since (seen.push e.born) clock (fun x=>left x&& !x.sameKey kl) lV→lV<cnt→St w0 F w' (L' (seen.push e.born) clock)→
   zg P ops K (Held w0 F []) l (a.put o.dst (.tuple #[.bool true,e.key,e.val])) w'):zg P ops K (Held w0 F []) ((o,c)::l) a w:=by
 obtain⟨_,hb,rfl⟩:=hM.holds _ hm
 obtain⟨_,hr,rfl⟩:=hM.holds _ (hu #[] 0).mem
 have hne:r≠b:=fun e=>by
  simp only at hb hr
  rw[e,hb] at hr
  cases hr
 rcases run_next_at (P:=P) w o.type r b since c0 seen es clock hr hb hR.old hR.s0 with ⟨hz,hrun⟩|⟨e,he,w1,hal,hrun⟩
 ·have gu:(execOp a.eval o).run P w= .ok (.value (.tuple #[.bool false])) w:=by
   unfold execOp
   simp only[hx,hev,Sem.run_bind,Sem.run_pure,hrun,Result.andThen_ok]
  refine zB hc hw gu (h0 (hR.cnt▸hz) fun kl=> ?_)
  cases hk:left kl
  ·rfl
  ·obtain⟨x,vN,rfl⟩:=hR.kY kl hk
   rw[hR.jH x vN,all_seen es seen hz x vN] at hk
   cases hk
 ·obtain⟨kA,DV⟩:=mem_left he
  obtain⟨y0,oE⟩:=hR.fit.reads e kA
  obtain⟨z,hz,iN⟩:=rd_val oE
  have hkey:=rd_key oE
  have pF:(rg P kt Ze e).1=y0.1:=by rw[rg_of oE]
  have hr1:w1.heap[r]? =some (.mapIter (some b) since seen c0):=by rcases hal with rfl|rfl<;> exact hr
  have nw:=heap_set (o':= .mapIter (some b) since (seen.push e.born) clock) hr1
  have hO:Only [r] w (setBlock w1 r (.mapIter (some b) since (seen.push e.born) clock)):=by
   rcases hal with rfl|rfl
   ·exact⟨rfl,rfl,rfl,by simp[setBlock],fun i _ hi=>nw.2 i (by simpa using hi)⟩
   ·exact⟨rfl,rfl,rfl,by simp[setBlock],fun i _ hi=>nw.2 i (by simpa using hi)⟩
  have gu:(execOp a.eval o).run P w= .ok (.value (.tuple #[.bool true,e.key,e.val])) (setBlock w1 r (.mapIter (some b) since (seen.push e.born) clock)):=by
   unfold execOp
   simp only[hx,hev,Sem.run_bind,Sem.run_pure,hrun,Result.andThen_ok]
  have hz':z=(.held e.val,[]):=(Option.some.inj hz).symm
  have jI: ∀ q,yb m y0.1 q=e.val:=fun q=>by
   have h1:(Zh m).atKey y0.1 (.held q)=y0.2:=by
    rw[hR.eq,(atKey_sorted (es.toList.map (rg P kt Ze)) (Maps.fit_rising hK hR.fit) y0.1 (hK.key hkey)).2 (rg P kt Ze e) (laKz.2 ⟨e,kA,rfl⟩) pF,rg_of oE]
   rw[zcu] at h1
   have h2:DataW.held (yb m y0.1 q)=(z.1:DataW Value):=h1.trans iN
   rw[hz'] at h2
   injection h2
  refine zM hc hw gu (.inl rfl) (fun _ hh=>⟨hh.only.then hO (fun q hq=>by
   have e1:q=r:=by simpa using hq
   rw[e1];exact hM.own _ (hu #[] 0).mem rfl),nofun⟩) (h _ e y0.1 _ kA hkey ?_ jI ⟨hR.fit,hR.size,hR.eq,hR.old,rfl,fun q hq=> ?_,fun kl hkl=>hR.kY kl (by simp at hkl;exact hkl.1),hR.s1,hR.s1⟩ ?_ (hM.turn (hu _ _) hO ⟨_,nw.1,rfl⟩))
  ·rw[←pF,hR.jH e kA,DV];rfl
  ·show(left (rg P kt Ze q).1&& !(rg P kt Ze q).1.sameKey y0.1)=_
   rw[hR.jH q hq,←pF,same_iff_born hK hR.fit hq kA,contains_push]
   cases seen.contains q.born<;> cases (q.born==e.born)<;> rfl
  ·rw[←hR.cnt];exact left_shrinks es seen e he
theorem St.entry(hx:o.op= .entry x)(hM:St w0 F w L)(hc:(c==2||c==3)=true)(hw:Region.wanted o (yielded ops a.tmps)=true)(hev:a.eval x= .pointer (some ⟨r,0,none⟩))(hm:(b,ow,j9 es clock)∈L){e:MapEntry}{DW:Bool}(hi:(r,DW,nv b since (seen.push e.born) clock)∈L)(he:e∈es.toList){mD:Array Nat}(hR:mC P kt m es clock since mD clock left cnt)
  (h:zg P ops K S l (a.put o.dst (.tuple #[e.key,e.val])) w):zg P ops K S ((o,c)::l) a w:=by
 obtain⟨_,hb,rfl⟩:=hM.holds _ hm
 obtain⟨_,hr,rfl⟩:=hM.holds _ hi
 have hrun:(execOp a.eval o).run P w= .ok (.value (.tuple #[e.key,e.val])) w:=by
  unfold execOp
  simp only[hx,hev,Sem.run_bind,Sem.run_pure,run_entry_at w r b since seen es clock e hr hb he ((stamped_iff es clock).1 hR.fit.stamped).2.1,Result.andThen_ok]
 exact zB hc hw hrun h
end
end
section
open Go.RowKit Go.Maps Go.Shelf
section
variable {w w0:World}{b:Nat}{F:List Nat}{L:List Ent}{l:List (Lit×Value)}
theorem sP{P:Program}{k:TypeId}{es:Array MapEntry}{clock:Nat}(hb:w.heap[b]? =some (.map es clock))(h:zA P k w b l):St w [] (w.alloc (.map es clock)) [(w.heap.size,true,mapR P k l)]:=
 (St.start w []).push (.map es clock) ⟨_,rfl,w,b,hb,h⟩
theorem DX(h:(mapR Tryz.prog 9 l).holds w.heap[b]?):Calls Tryz.prog 126 #[.map (some b)] w fun e w'=> ∃ c,e= .returned (.map (some c))∧St w [] w' [(c,true,mapR Tryz.prog 9 l)]:=by
 have hm:=ZU h
 have lW:=hm
 obtain⟨es,clock,hb,-⟩:=lW
 refine(AnyW.maps_Clone Tryz.cloneM b es clock w hb).mono ?_
 rintro e w' ⟨rfl,rfl⟩
 exact⟨_,rfl,sP hb hm⟩
end
/-! ### nodes,some of them -/
def Zw(p:Int→Bool)(l:List NodeD):List NodeD:=l.filter fun n=>p n.id
theorem vO(p:Int→Bool)(y:NodeD)(r:List NodeD):Zw p (y::r)=if p y.id then y::Zw p r else Zw p r:=by
 unfold Zw
 rw[lbNz]
theorem vP{p q:Int→Bool}{l:List NodeD}(h: ∀ n∈l,p n.id=q n.id):Zw p l=Zw q l:=List.filter_congr h
theorem DY{β γ:Int→Nat×Nat}{l:List NodeD}(h: ∀ n∈l,β n.id=γ n.id):zz β l=zz γ l:=by
 unfold zz
 exact lbVz fun n hn=>by rw[h n hn]
theorem DZ(β γ:Int→Nat×Nat)(p q:Int→Bool)(n:NodeD)(hp:p n.id=false)(hq: ∀ i,q i=(p i||i==n.id))(hg: ∀ i,i≠n.id→γ i=β i):
  ∀ l:List NodeD,(l.Pairwise fun a b=>a.id<b.id)→n∈l→putL (.int .i64 n.id) (.pointer (some ⟨(γ n.id).1,0,none⟩)) (zz β (Zw p l))=zz γ (Zw q l)∧((Zw q l).Perm (n::Zw p l)):=by
 have ij: ∀ l:List NodeD,delL (.int .i64 n.id) (zz β (Zw p l))=zz β (Zw p l):=fun l=>by
  unfold delL zz Zw
  rw[lcLz]
  intro x hx
  obtain⟨m,hm,rfl⟩:=laKz.1 hx
  have h1:p m.id=true:=by simpa using (lbHz.1 hm).2
  show(!decide (IntKind.i64=IntKind.i64∧m.id=n.id))=true
  have:m.id≠n.id:=fun e=>by rw[e,hp] at h1;cases h1
  simp[this]
 have pG: ∀ l:List NodeD,(∀ m∈l,m.id≠n.id)→zz γ (Zw q l)=zz β (Zw p l)∧Zw q l=Zw p l:=fun l hl=>by
  have e:Zw q l=Zw p l:=vP fun m hm=>by rw[hq];simp[hl m hm]
  refine⟨?_,e⟩
  rw[e]
  exact DY fun m hm=>hg m.id (hl m (lbHz.1 hm).1)
 have sQ: ∀ l:List NodeD,(∀ m∈l,n.id<m.id)→ ∀ v,insL (.int .i64 n.id,v) (zz β (Zw p l))=(.int .i64 n.id,v)::zz β (Zw p l):=fun l hl v=>by
  cases hs:Zw p l with
  |nil=>rfl
  |cons y r=>
   have hy:y∈Zw p l:=by rw[hs];exact .head _
   have:=hl y (lbHz.1 hy).1
   unfold zz
   rw[laDz]
   unfold insL
   rw[if_pos (show(Lit.int .i64 n.id).before (.int .i64 y.id)=true by simpa[Lit.before] using this)]
 intro l hl hn
 unfold putL
 rw[ij]
 induction l with
 |nil=>cases hn
 |cons y r ih=>
  obtain⟨hy,hr⟩:=laVz.1 hl
  rw[vO,vO]
  rcases laBz.1 hn with rfl|hn'
  ·have hne: ∀ m∈r,m.id≠n.id:=fun m hm=>by have:=hy m hm;omega
   obtain⟨s1,s2⟩:=pG r hne
   rw[if_neg (by rw[hp];decide),if_pos (by rw[hq];simp),sQ r hy,s2]
   refine⟨?_,List.Perm.refl _⟩
   show _=(Lit.int .i64 n.id,_)::zz γ (Zw p r)
   rw[s2] at s1
   rw[s1]
  ·have hlt:=hy n hn'
   have hne:y.id≠n.id:=by omega
   obtain⟨i1,i2⟩:=ih hr hn'
   have ny:q y.id=p y.id:=by rw[hq];simp[hne]
   rw[ny]
   by_cases rA:p y.id=true
   ·rw[if_pos rA,if_pos rA]
    refine⟨?_,(i2.cons y).trans (List.Perm.swap n y _)⟩
    show insL _ ((Lit.int .i64 y.id,Value.pointer (some ⟨(β y.id).1,0,none⟩))::zz β (Zw p r))=(Lit.int .i64 y.id,Value.pointer (some ⟨(γ y.id).1,0,none⟩))::zz γ (Zw q r)
    unfold insL
    rw[if_neg (show ¬(Lit.int .i64 n.id).before (.int .i64 y.id)=true by simp[Lit.before];omega),i1,hg y.id hne]
   ·rw[if_neg rA,if_neg rA]
    exact⟨i1,i2⟩
theorem D0(γ δ:Int→Nat×Nat)(n:NodeD)(p:Int→Bool)(hp:p n.id=false)(hd: ∀ i,i≠n.id→δ i=γ i){l l':List NodeD}(h:l'.Perm (n::Zw p l)):(l'.flatMap (xP δ)).Perm (xP δ n++(Zw p l).flatMap (xP γ)):=by
 refine(h.flatMap_right (xP δ)).trans (List.Perm.of_eq ?_)
 rw[laOz]
 congr 1
 have: ∀ m∈Zw p l,xP δ m=xP γ m:=fun m hm=>by
  have h1:p m.id=true:=by simpa using (lbHz.1 hm).2
  have:m.id≠n.id:=fun e=>by rw[e,hp] at h1;cases h1
  unfold xP
  rw[hd m.id this]
 rw[ldLz,ldLz,lbVz this]
theorem D5{β:Int→Nat×Nat}{l:List NodeD}{x:Int}{v:Value}(h: ∀ z,yb (zz β l) (.int .i64 x) z=v): ∃ n∈l,n.id=x∧v= .pointer (some ⟨(β n.id).1,0,none⟩):=by
 have h1:=h (.pointer none)
 have h2:=h (.bool true)
 unfold yb at h1 h2
 cases hf:(zz β l).find? fun p=>p.1.sameKey (.int .i64 x) with
 |none=>
  rw[hf] at h1 h2
  rw[←h2] at h1
  cases h1
 |some p=>
  rw[hf] at h1
  obtain⟨n,hn,rfl⟩:=laKz.1 (laUz hf)
  have:=lcOz hf
  have hx:n.id=x:=by
   have h3:decide (IntKind.i64=IntKind.i64∧n.id=x)=true:=this
   simpa using h3
  exact⟨n,hn,hx,h1.symm⟩
theorem D6{w:World}{b:Nat}{cs:List Value}{t:TypeId}{fr:Nat×Nat}(h:w.heap[b]? =some (.cells cs.toArray t fr)):w.rangeAt b 0 cs:=fun j v hj=>by
 unfold World.cell?
 simp[h,hj]
theorem Only.holds{w0 w:World}{b:Nat}{r:Res}(h:Only [] w0 w)(hr:r.holds w0.heap[b]?):r.holds w.heap[b]? :=by
 rw[h.block b (Res.lt hr) (by simp)];exact hr
theorem oF(b:Nat)(r:Res):zO [(b,true,r)]:=fun y hy=>by rcases laGz.1 hy with rfl;rfl
theorem D7{α:Type}(c k a b e m:α)(R:List α):(c::k::a::b::e::m::R).Perm (a::b::e::m::k::c::R):=
 ((lcMz (l₁:=[a,b,e,m]) (a:=k) (l₂:=R)).symm.cons c).trans (lcMz (l₁:=[a,b,e,m,k]) (a:=c) (l₂:=R)).symm
theorem D8{β:Int→Nat×Nat}{l:List NodeD}{n:NodeD}(hn:n∈l):Maps.has (Zh (zz β l)) (.int .i64 n.id)=true:=by
 refine ldMz.2 ⟨(.int .i64 n.id,.held (.pointer (some ⟨(β n.id).1,0,none⟩))), ?_,by show decide (IntKind.i64=IntKind.i64∧n.id=n.id)=true;simp⟩
 exact laKz.2 ⟨(.int .i64 n.id,.pointer (some ⟨(β n.id).1,0,none⟩)),laKz.2 ⟨n,hn,rfl⟩,rfl⟩
section
variable {g mb:Nat}{β:Int→Nat×Nat}{t:TabD}
theorem D9{ws:World}(h:TblAt ws g mb β t)(hq:0<t.quota)(hlen:t.nodes.length≤4611686018427):Calls Tryz.prog 74 #[.pointer (some ⟨g,0,none⟩)] ws fun e w'=> ∃ g' D_ γ,e= .returned (.pointer (some ⟨g',0,none⟩))∧St ws [] w' (tblL g' D_ γ t):=by
 have hM:St ws [] ws [(mb,false,mapR Tryz.prog 3 (zz β t.nodes))]:=(St.start ws []).learn (Yx h.map) nofun nofun
 have HT:=qh h
 have CG:=qh (yZ h hq)
 have HA:Hid (t.nodes.Pairwise fun a b=>a.id<b.id):=qh (by
  have:=zA.sorted h.map zq
  unfold zz at this
  rw[lcJz] at this
  exact this.imp fun h=>by simpa[Lit.before] using h)
 obtain⟨c0,c1,c2,c3⟩:=zS h
 clear h hq
 go_enter Tryz.func74,Tryz.ntmps74
 (repeat(first|(refine qW ?_;intros;rename_i hM)|(refine qMk ?_;clear hM;intro w bk hM)))
 (refine qK (fun R hR=> ?_))
 refine CG.out.mono ?_
 ((first|refine qG hR ?_|refine qGr hR ?_);clear hR R)
 (repeat(first|(refine qW ?_;intros;rename_i hM)|(refine qMk ?_;clear hM;intro w bk hM)))
 refine St.makeMap (kt:=3) rfl hM rfl rfl (fun w=> ?_) ?_
 ·go_simp
  simp[Instr.makeMap,newObj,Sem.run]
 clear hM;intro w oG hM
 (refine qq ?_)
 (repeat(first|(refine qW ?_;intros;rename_i hM)|(refine qMk ?_;clear hM;intro w bk hM)))
 obtain⟨g2,eg⟩: ∃ b,b=bk:=⟨_,rfl⟩
 subst eg
 refine St.range (kt:=3) rfl hM rfl rfl rfl zq Tryz.underlying160 (fun _ _=>by repeat constructor) ?_
 clear hM;intro w r es clock since hR0 hM
 (refine qq ?_)
 (repeat(first|(refine qW ?_;intros;rename_i hM)|(refine qMk ?_;clear hM;intro w bk hM)))
 have HR0:=qh hR0
 clear hR0
 replace hM:St ws [] w ((r,true,nv mb since #[] since)::(mb,false,j9 es clock)::tblL g2 oG β ⟨t.quota,t.used,t.last,Zw (fun _=>false) t.nodes⟩):=by
  have e:Zw (fun _=>false) t.nodes=[]:=by unfold Zw;simp
  rw[e]
  exact hM.perm ((lcMz (l₁:=[_,_]) (l₂:=[])).cons _)
 go_loopw [4] (fun _ wr=> ∃ (seen:Array Nat) (s0:Nat) (left:Lit→Bool) (cnt:Nat) (γ:Int→Nat×Nat),Hid (mC Tryz.prog 3 (zz β t.nodes) es clock since seen s0 left cnt)∧St ws [] wr ((r,true,nv mb since seen s0)::(mb,false,j9 es clock)::tblL g2 oG γ ⟨t.quota,t.used,t.last,Zw (fun i=> !left (.int .i64 i)) t.nodes⟩)) (fun _ wr=>wr.rangeLeft mb r)
 case atStart=>
  refine⟨_,_,_,_,β,HR0, ?_⟩
  rw[vP (q:=fun _=>false) fun n hn=>by rw[D8 hn];rfl]
  exact hM
 case round=>
  clear hM
  obtain⟨seen,s0,left,cnt,γ,HR,hM⟩:=hrel
  have sR:=qh ((HR.out.to (hM.holds _ (.tail _ (.head _))) (hM.holds _ (.head _))).left_eq)
  (repeat(first|(refine qW ?_;intros;rename_i hM)|(refine qMk ?_;clear hM;intro w bk hM)))
  refine St.next (kt:=3) rfl hM rfl rfl rfl zq (.tail _ (.head _)) (fun _ _=>Upd.head) HR.out ?_ ?_
  ·intro hz hl
   have e:Zw (fun i=> !left (.int .i64 i)) t.nodes=t.nodes:=by
    unfold Zw
    rw[lcLz]
    intro n _
    show(!left (.int .i64 n.id))=true
    rw[hl];rfl
   rw[e] at hM
   clear hl e hz HR
   (refine qq ?_)
   (repeat(first|(refine qW ?_;intros;rename_i hM)|(refine qMk ?_;clear hM;intro w bk hM)))
   (refine qf ?_)
   exact⟨g2,oG,γ,rfl,hM.drop (fun z hz=> .tail _ (.tail _ hz)) (by have:=hM.nd;simp only[laDz,laTz] at this;exact this.2.2)⟩
  ·clear hM
   intro w e kl lV he hkey hlk jI vQ hlt hM
   obtain⟨x,hek,rfl,-⟩:=Maps.keyOf_int_inv Tryz.underlying3 hkey
   obtain⟨n,hn,rfl,hev⟩:=D5 jI
   have hrow:=D6 (HT.out.node n hn).row
   have c4:=hrow 4 _ rfl
   have HNM:=qh (Yx (HT.out.node n hn).names)
   have sS:=qh vQ
   have HE:=qh he
   have HN:=qh hn
   have bo:=qh hlk
   have mE:=hkey
   rw[hek] at mE
   have rB:=qh hlt
   clear vQ he hn hlk hkey hlt jI HR
   simp only[hek,hev]
   (refine qq ?_)
   (repeat(first|(refine qW ?_;intros;rename_i hM)|(refine qMk ?_;clear hM;intro w bk hM)))
   refine St.entry (kt:=3) rfl hM rfl rfl rfl (.tail _ (.head _)) (.head _) HE.out sS.out ?_
   simp only[hek,hev]
   (refine qq ?_)
   (repeat(first|(refine qW ?_;intros;rename_i hM)|(refine qMk ?_;clear hM;intro w bk hM)))
   (refine qKx ?_;intro R hR)
   refine(DX (hM.only.holds HNM.out)).mono ?_
   rintro e' w' ⟨c,rfl,hN⟩
   replace hM:=hM.madeM hN (oF _ _)
   refine qho ?_;clear hR R hN;(refine qq ?_)
   simp only[laIz,laJz] at hM
   unfold tblL tblE at hM
   (repeat(first|(refine qW ?_;intros;rename_i hM)|(refine qMk ?_;clear hM;intro w bk hM)))
   obtain⟨δ,d1,d2⟩: ∃ δ:Int→Nat×Nat,δ n.id=(bk,c)∧ ∀ i,i≠n.id→δ i=γ i:=⟨fun i=>if i=n.id then(bk,c) else γ i,if_pos rfl,fun i hi=>if_neg hi⟩
   obtain⟨hput,mF⟩:=DZ γ δ (fun i=> !left (.int .i64 i)) (fun i=> !(left (.int .i64 i)&& !(Lit.int .i64 i).sameKey (.int .i64 n.id))) n (by show(!left (.int .i64 n.id))=false;rw[bo.out];rfl) (fun i=>by
    show(!(left (.int .i64 i)&& !(decide (IntKind.i64=IntKind.i64∧i=n.id))))=(!left (.int .i64 i)||i==n.id)
    by_cases hi:i=n.id
    ·simp[hi]
    ·simp[hi]) d2 t.nodes HT.out.ids HN.out
   rw[d1] at hput
   refine St.mapUpdate (kl:= .int .i64 n.id) rfl hM rfl rfl rfl rfl rfl qm hput zq Tryz.underlying160 ?_ mE (fun h=>by cases h) ?_
   ·have h1:(zz γ (Zw (fun i=> !left (.int .i64 i)) t.nodes)).length≤t.nodes.length:=by
     unfold zz Zw
     rw[lbMz]
     exact lbYz _ _
    unfold maxLen
    omega
   have hfl:=D0 γ δ n (fun i=> !left (.int .i64 i)) (by show(!left (.int .i64 n.id))=false;rw[bo.out];rfl) d2 mF
   clear hM;intro w hM
   (refine qq ?_)
   replace hM:=hM.perm (D7 _ _ _ _ _ _ _)
   have e2:xP δ n=[(bk,true,.cells [.bool n.dir,.int .i64 n.links,.int .i64 n.holds,.string n.data,.map (some c)] 166),(c,true,mapR Tryz.prog 9 (Zk n.names))]:=by unfold xP;rw[d1]
   rw[e2] at hfl
   replace hM:=hM.perm ((((hfl.symm.cons _).cons _).cons _).cons _)
   clear hfl mF hput
   (repeat(first|(refine qW ?_;intros;rename_i hM)|(refine qMk ?_;clear hM;intro w bk hM)))
   refine⟨?_, ?_⟩
   ·repeat(first|exact⟨⟨_,_,_,lV,_,sS,hM⟩,rfl⟩|apply Exists.intro)
   ·rw[sR.out,(sS.out.to (hM.holds _ (.tail _ (.head _))) (hM.holds _ (.head _))).left_eq]
    exact rB.out
end
end
section
open Go.RowKit Go.Maps Go.Shelf
theorem Ea{w:World}{b:Nat}{l:List (Lit×Value)}(h:(mapR Tryz.prog 3 l).holds w.heap[b]?):Calls Tryz.prog 75 #[.map (some b)] w fun e w'=> ∃ c,e= .returned (.map (some c))∧St w [] w' [(c,true,mapR Tryz.prog 3 l)]:=by
 have hm:=ZU h
 have lW:=hm
 obtain⟨es,clock,hb,-⟩:=lW
 refine(AnyW.maps_Clone Tryz.cloneH b es clock w hb).mono ?_
 rintro e w' ⟨rfl,rfl⟩
 exact⟨_,rfl,sP hb hm⟩
theorem St.front{w0 w:World}{F:List Nat}{M R:List Ent}(h:St w0 F w (M++R)):St w0 F w M:=h.drop (fun z hz=>laEz _ hz) (by
 have:=h.nd
 rw[laMz,laSz] at this
 exact this.1)
theorem In.jJ: ∀ l:List NodeD,64*(l.length:Int)≤In.sum l
 |[]=>by simp[In.sum]
 |n::r=>by
  have:=In.jJ r
  have h1:64≤In.cost n:=by unfold In.cost;omega
  simp only[In.sum,laDz,lcCz,laPz] at this ⊢
  omega
theorem In.lX{N:Nat}{t:TabD}(h:In.Inv N t):t.nodes.length≤4611686018427:=by
 have h1:=In.jJ t.nodes
 have h2:=h.used
 have h3:=h.cap
 have h4:=h.q1
 omega
open Go.Sort in
theorem Eb(h:List (Int×List Int)):intKeys (Zh (ZM h))=h.map Prod.fst:=by
 simp[Zh,ZM,intKeys,Go.intOf]
theorem Ec(mb:Option Nat)(W:World):Calls Tryz.prog 73 #[.map mb] W fun e w'=>e= .returned (.func (.func 125) #[] #[.pointer (some ⟨W.heap.size,0,none⟩)])∧w'=W.alloc (.cells #[.map mb] 42):=
 (callsIn_wide (n:=5)).1 (AnyZI.keys_in Tryz.keysH Fence.wide 5 trivial rfl mb W)
open Go.Sort in
theorem Ed{m:Nat}{l:List (Int×List Int)}(w:World)(h:zA Tryz.prog 3 w m (ZM l))(hl:l.length≤4611686018427):
  Calls Tryz.prog 72 #[.func (.func 125) #[] #[.pointer (some ⟨w.heap.size,0,none⟩)]] (w.alloc (.cells #[.map (some m)] 42)) fun e w'=> ∃ v:Value,e= .returned v∧
   w'.ownsRow (w.heap.size+1) 3 1 v l.length ((l.map Prod.fst).map (Value.int .i64))∧Below w.heap.size w w':=by
 have hbl:=zA.lt h
 have hsz:Maps.size (Zh (ZM l))=l.length:=by rw[yl];simp[ZM]
 have hown:w.ownsMap Tryz.prog 3 Ze m (ZM l).length (Zh (ZM l)):=h
 have hseq:SeqGives Fence.wide 2 Tryz.prog 125 #[.pointer (some ⟨w.heap.size,0,none⟩)] encZ (fun ss=>ss.Perm (intKeys (Zh (ZM l)))) (Maps.size (Zh (ZM l))) (w.alloc (.cells #[.map (some m)] 42)):=
  AnyZI.keys_gives (ρ:=Tryz.keysH_ren) {Tryz.keysH with} Fence.wide _ trivial rfl (by omega) w.heap.size m _ _ _ (by simp) (by simp) (by
   obtain⟨es,clock,hb,Ft,hs,hD⟩:=hown
   exact⟨es,clock,(Below.heap_alloc _ _ m hbl).trans hb,Ft,hs,hD⟩)
 have key:=AnyZI.sorted_in Tryz.sortedI Fence.wide 5 trivial trivial trivial trivial rfl (by omega) (zgI _) (enters_of Tryz.func124 (by kernel_rfl) rfl) 125 #[.pointer (some ⟨w.heap.size,0,none⟩)] trivial (enters_of Tryz.func125 (by kernel_rfl) rfl) _ _ (by rw[hsz,zj];omega) (by rw[hsz];omega) _ hseq
 refine((callsIn_wide (n:=5)).1 key).mono fun e w' hx=> ?_
 obtain⟨v,ss,he,hp,hrow,_,hb⟩:=hx
 refine⟨v,he, ?_,((Below.refl _ w).alloc (Nat.le_refl _) _).trans (hb.mono (by simp))⟩
 rw[Eb] at hp
 have hs:(l.map Prod.fst).Pairwise fun a b=>a<b:=by
  have:=zA.sorted h zq
  unfold ZM at this
  rw[lcJz] at this ⊢
  exact this.imp fun h=>by simpa[Lit.before] using h
 have e:=zbw hp hs
 have hlen:ss.length=l.length:=by rw[hp.length_eq];simp
 rw[show(fun x y:Int=>decide (x≤y))=leI from rfl,e,hlen] at hrow
 rw[zH] at hrow
 exact hrow
section
variable {N:Nat}{x:FsX}{β:Int→Nat×Nat}{d:FsD}{w:World}
theorem YR(h:FsAt N x β d w)(hN:N≤1000000000):Calls Tryz.prog 22 #[.pointer (some ⟨x.f,0,none⟩)] w fun e w'=> ∃ x' γ,e= .returned (.pointer (some ⟨FsX.f x',0,none⟩))∧St w [] w' (fsL x' γ d):=by
 have hM:=h.at_.ro
 unfold fsL at hM
 simp only[laDz,zx] at hM
 have HF:=qh h
 have hq:0<d.t.quota:=by have:=h.inv.tbl.q0;omega
 have hln:d.t.nodes.length≤4611686018427:=In.lX h.inv.tbl
 clear h
 go_enter Tryz.func22,Tryz.ntmps22
 (repeat(first|(refine qW ?_;intros;rename_i hM)|(refine qMk ?_;clear hM;intro w bk hM)))
 (refine qKx ?_;intro R hR)
 refine(yy (HF.out.below hM.to_below)).mono ?_
 (refine qgs ?_;clear hR R)
 (repeat(first|(refine qW ?_;intros;rename_i hM)|(refine qMk ?_;clear hM;intro w bk hM)))
 (refine qKx ?_;intro R hR)
 refine(D9 (HF.out.below hM.to_below).tbl hq hln).mono ?_
 rintro e w' ⟨g2,oG,γ,rfl,hN⟩
 replace hM:=hM.madeM hN zD
 refine hR.out _ _ (fun h=>h.below hN.to_below) ?_;clear hR R hN;(refine qq ?_)
 (repeat(first|(refine qW ?_;intros;rename_i hM)|(refine qMk ?_;clear hM;intro w bk hM)))
 (refine qKx ?_;intro R hR)
 refine(Ea (hM.only.holds (HF.out.at_.has (x.hb,true,mapR Tryz.prog 3 (ZM d.h)) (by unfold fsL;exact .tail _ (.head _))))).mono ?_
 rintro e w' ⟨c,rfl,hN⟩
 replace hM:=hM.madeM hN (oF _ _)
 refine hR.out _ _ (fun h=>h.below hN.to_below) ?_;clear hR R hN;(refine qq ?_)
 simp only[laIz,laJz] at hM
 (repeat(first|(refine qW ?_;intros;rename_i hM)|(refine qMk ?_;clear hM;intro w bk hM)))
 (refine qf ?_)
 exact⟨⟨bk,c,g2,oG⟩,γ,rfl,St.front (M:=fsL ⟨bk,c,g2,oG⟩ γ d) hM⟩
def Fs.af(d:FsD):List Int:=d.h.map Prod.fst
def rC(xs:List Int)(w:World)(e:Ending)(w':World):Prop:=
 ∃ s,e= .returned (slV s xs.length)∧SlOK s xs.length (xs.map (Value.int .i64)) 1∧St w [] w' (slL s (xs.map (Value.int .i64)) 3 1)
theorem vR(h:FsAt N x β d w)(hN:N≤1000000000):Calls Tryz.prog 21 #[.pointer (some ⟨x.f,0,none⟩)] w (rC (Fs.af d) w):=by
 have hM:=h.at_.ro
 unfold fsL at hM
 simp only[laDz,zx] at hM
 have HF:=qh h
 have hln:d.h.length≤4611686018427:=by have:=h.inv.len;omega
 have HMP:=qh (ZU (h.at_.has (x.hb,true,mapR Tryz.prog 3 (ZM d.h)) (by unfold fsL;exact .tail _ (.head _))))
 clear h
 go_enter Tryz.func21,Tryz.ntmps21
 (refine qw ?_;intros;rename_i hM)
 (refine qKx ?_;intro R hR)
 refine(yy (HF.out.below hM.to_below)).mono ?_
 (refine qgs ?_;clear hR R)
 (refine qw ?_;intros;rename_i hM)
 (refine qKx ?_;intro R hR)
 refine(Ec _ _).mono ?_
 rintro e w' ⟨rfl,rfl⟩
 refine hR.out _ _ (fun h=>h.below ((Below.refl _ w).alloc (Nat.le_refl _) _)) ?_;clear hR R;(refine qq ?_)
 (refine qKx ?_;intro R hR)
 refine(Ed w HMP.out hln).mono ?_
 rintro e w' ⟨v,rfl,hrow,hb⟩
 obtain⟨s,rfl,hok,hst⟩:=Yi hrow hb (Nat.le_succ _)
 replace hM:=hM.madeM hst (zo _ _ _ _)
 have HOK:=qh hok
 have e1:d.h.length=(d.h.map Prod.fst).length:=by simp
 refine hR.out _ _ (fun h=>⟨hM.only,nofun⟩) ?_;clear hR R hrow hok;(refine qq ?_)
 (refine qw ?_;intros;rename_i hM)
 (refine qf ?_)
 have h2:=HOK.out
 rw[e1] at h2
 refine⟨s, ?_,h2,hst⟩
 show Ending.returned (slV s d.h.length)= .returned (slV s (d.h.map Prod.fst).length)
 rw[←e1]
end
end
section
namespace Pt
def under(p dir:ByteArray):Bool:=decide ((parts dir).length<(parts p).length)&&decide ((parts p).take (parts dir).length=parts dir)
def run:ByteArray:=⟨#[114,117,110]⟩
end Pt
abbrev a_:=Int×Option OpD
structure ar where
 now:FsD
 base:FsD
 log:List a_
def gL(k:Int)(p:ByteArray):OpD:=⟨k,p,⟨#[]⟩,0,0,0,⟨#[]⟩,0,0⟩
namespace Ol
def again(d:FsD):a_→FsD
 |(o,some p)=>(Fs.do_ d o p).2
 |(o,none)=>Fs.exit d o
def replay(d:FsD)(l:List a_):FsD:=l.foldl again d
def aw(d:FsD)(x:ah):FsD:=if Pt.under x.path Pt.run then(Fs.do_ d 0 (gL (if x.dir then 2 else 11) x.path)).2 else d
def ay(d:FsD):FsD:=(Fs.files d).reverse.foldl aw d
def aY(d:FsD):FsD:=(Fs.af d).foldl Fs.exit d
def aW(D:ar)(keep:Int):FsD:=ay (aY (replay D.base (D.log.take (max 0 (min keep D.log.length)).toNat)))
def cut(D:ar)(keep:Int):ar:=⟨aW D keep,aW D keep,[]⟩
def new(q:Int):ar:=⟨Fs.new q,Fs.new q,[]⟩
def sync(D:ar):ar:=⟨D.now,D.now,[]⟩
def eo(r:ResD)(p:OpD):Prop:=r.err=0∧p.kind≠6∧p.kind≠9∧p.kind≠13
instance (r:ResD) (p:OpD):Decidable (eo r p):=by unfold eo;infer_instance
def aO(D:ar)(o:Int)(p:OpD):ar:=⟨(Fs.do_ D.now o p).2,D.base,if eo (Fs.do_ D.now o p).1 p then D.log++[(o,some p)] else D.log⟩
def do_(D:ar)(o:Int)(p:OpD):ResD×ar:=if p.kind=14 then(Fs.errR 0,sync D) else((Fs.do_ D.now o p).1,aO D o p)
def exit(D:ar)(o:Int):ar:=if o∈Fs.af D.now then⟨Fs.exit D.now o,D.base,D.log++[(o,none)]⟩ else D
def fF(l:a_):Prop:=Fits l.1∧ ∀ p,l.2=some p→p.Ok
structure aH (N:Nat) (d:FsD):Prop where
 inv:Fs.Inv N d
 up:In.Up d.t
 own: ∀ p∈d.h,Fits p.1
structure Inv (N:Nat) (D:ar):Prop where
 now:aH N D.now
 base: ∃ M,aH M D.base∧M+3*D.log.length≤N
 ok: ∀ l∈D.log,fF l
section
variable {N M:Nat}{d:FsD}{D:ar}
theorem aH.more(h:aH N d)(hM:N≤M):aH M d:=⟨h.inv.more hM,h.up,h.own⟩
theorem sT{h:List (Int×List Int)}{o:Int}{l:List Int}(hh: ∀ p∈h,Fits p.1)(ho:Fits o): ∀ p∈Fs.put h o l,Fits p.1:=fun p hp=>by
 rcases Fs.mem_ins.1 hp with rfl|hp
 ·exact ho
 ·exact hh p (lbHz.1 hp).1
theorem vS{h:List (Int×List Int)}{o:Int}{l:List Int}(hh: ∀ p∈h,Fits p.1)(ho:Fits o): ∀ p∈Fs.shut h o l,Fits p.1:=fun p hp=>by
 unfold Fs.shut at hp
 split at hp
 ·exact sT hh ho p (lbHz.1 hp).1
 ·exact sT hh ho p hp
theorem vT{o id:Int}(hh: ∀ p∈d.h,Fits p.1)(ho:Fits o): ∀ p∈(Fs.gives d o id).2.h,Fits p.1:=by
 unfold Fs.gives
 split
 ·exact sT hh ho
 ·exact hh
theorem vU{o:Int}{q:OpD}(hh: ∀ p∈d.h,Fits p.1)(ho:Fits o): ∀ p∈(Fs.do_ d o q).2.h,Fits p.1:=by
 unfold Fs.do_
 split
 ·exact hh
 split
 ·unfold Fs.opens
  split
  ·exact hh
  split
  ·exact hh
  split
  ·split
   ·exact hh
   ·exact vT hh ho
  split
  ·exact hh
  ·exact vT hh ho
 split
 ·unfold Fs.handled
  split
  ·exact hh
  split
  ·exact vS hh ho
  split
  ·exact hh
  split
  ·exact hh
  split
  ·exact hh
  ·exact hh
 split
 ·exact hh
 ·exact hh
theorem vV(o:Int)(ho:Fits o): ∀ (l:List Int) (n:Nat) (d:FsD),(∀ p∈d.h,Fits p.1)→ ∀ p∈(Fs.exitL o l n d).h,Fits p.1
 |[],_,_,h=>h
 |i::r,n,d,h=>by
  unfold Fs.exitL
  refine vV o ho r (n+1) _ ?_
  split
  ·exact vS h ho
  ·exact h
theorem gM(h:aH N d)(hN:N≤999999990){o:Int}(ho:Fits o)(p:OpD):aH (N+3) (Fs.do_ d o p).2:=⟨Fs.inv_do h.inv hN o p,Fs.mB h.inv h.up o p,vU h.own ho⟩
theorem cm(h:aH N d){o:Int}(ho:Fits o):aH N (Fs.exit d o):=⟨Fs.bP h.inv o,Fs.lU h.up o,vV o ho _ 0 d h.own⟩
theorem cE(h:aH N d)(hN:N≤999999990){l:a_}(hl:fF l):aH (N+3) (again d l):=by
 obtain⟨o,_|p⟩:=l
 ·exact(cm h hl.1).more (by omega)
 ·exact gM h hN hl.1 p
theorem yB: ∀ (l:List a_) {N:Nat} {d:FsD},(∀ x∈l,fF x)→aH N d→N+3*l.length≤999999990→aH (N+3*l.length) (replay d l)
 |[],_,_,_,h,_=>h
 |x::r,N,d,hl,h,hN=>by
  rw[laPz] at hN
  have:=yB r (fun y hy=>hl y (.tail _ hy)) (cE h (by omega) (hl x (.head _))) (by omega)
  rw[laPz,show N+3*(r.length+1)=N+3+3*r.length by omega]
  exact this
theorem dE(h:aH N d): ∀ o∈Fs.af d,Fits o:=fun o ho=>by
 obtain⟨p,hp,rfl⟩:=laKz.1 ho
 exact h.own p hp
theorem vW: ∀ (l:List Int) {d:FsD},(∀ o∈l,Fits o)→aH N d→aH N (l.foldl Fs.exit d)
 |[],_,_,h=>h
 |o::r,_,hl,h=>vW r (fun y hy=>hl y (.tail _ hy)) (cm h (hl o (.head _)))
theorem vX(h:aH N d):aH N (aY d):=vW _ (dE h) h
theorem Ee(h:aH N d){o:Int}(ho:Fits o){p:OpD}(hk:p.kind=2∨p.kind=11):aH N (Fs.do_ d o p).2:=by
 have key:Fs.Inv N (Fs.do_ d o p).2:=by
  have I:=h.inv
  unfold Fs.do_
  split
  ·exact I
  split
  ·exfalso;omega
  split
  ·exfalso;omega
  split
  ·exact I
  ·show Fs.Inv N ⟨(Fs.named d p).2,d.h⟩
   unfold Fs.named Fs.namedAt
   split
   ·exact I
   split
   ·exfalso;omega
   split
   ·exact Fs.ig I (In.inv_remove I.tbl _ _)
   split
   ·exact Fs.ig I (In.inv_unlink I.tbl _ _)
   ·exfalso;omega
 exact⟨key,Fs.mB h.inv h.up o p,vU h.own ho⟩
theorem cW(h:aH N d)(x:ah):aH N (aw d x):=by
 unfold aw
 split
 ·refine Ee h (show Fits 0 by decide) ?_
  show(if x.dir then(2:Int) else 11)=2∨(if x.dir then(2:Int) else 11)=11
  split<;> simp
 ·exact h
theorem dO(h:aH N d):aH N (ay d):=by
 unfold ay
 generalize (Fs.files d).reverse=l
 induction l generalizing d with
 |nil=>exact h
 |cons o r ih=>exact ih (cW h o)
theorem fG{q:Int}(h0:64≤q)(h1:q≤1099511627776):aH 1 (Fs.new q):=⟨Fs.inv_new h0 h1,In.nt q,nofun⟩
theorem inv_new{q:Int}(h0:64≤q)(h1:q≤1099511627776):Inv 1 (new q):=⟨fG h0 h1,⟨1,fG h0 h1,Nat.le_refl _⟩,nofun⟩
theorem Inv.more(h:Inv N D)(hM:N≤M):Inv M D:=by
 obtain⟨K,h1,h2⟩:=h.base
 exact⟨h.now.more hM,⟨K,h1,by omega⟩,h.ok⟩
theorem ik(h:Inv N D):Inv N (sync D):=⟨h.now,⟨N,h.now,by show N+3*0≤N;omega⟩,nofun⟩
theorem rD(D:ar)(keep:Int):(D.log.take (max 0 (min keep D.log.length)).toNat).length≤D.log.length:=by
 rw[lbTz];omega
theorem ep(h:Inv N D)(hN:N≤999999990)(keep:Int):aH N (aW D keep):=by
 obtain⟨K,h1,h2⟩:=h.base
 have:=rD D keep
 exact dO (vX ((yB _ (fun x hx=>h.ok x (lcIz hx)) h1 (by omega)).more (by omega)))
theorem lY(h:Inv N D)(hN:N≤999999990)(keep:Int):Inv N (cut D keep):=⟨ep h hN keep,⟨N,ep h hN keep,by show N+3*0≤N;omega⟩,nofun⟩
theorem Ef(h:Inv N D)(hN:N≤999999980){o:Int}(ho:Fits o){p:OpD}(hp:p.Ok):Inv (N+3) (aO D o p):=by
 obtain⟨K,h1,h2⟩:=h.base
 refine⟨gM h.now (by omega) ho p,⟨K,h1, ?_⟩,fun l hl=> ?_⟩
 ·unfold aO
  simp only
  split
  ·rw[laNz,lbQz];omega
  ·omega
 ·unfold aO at hl
  simp only at hl
  split at hl
  ·rcases laAz.1 hl with hl|hl
   ·exact h.ok l hl
   ·rcases laGz.1 hl with rfl
    exact⟨ho,fun q hq=>by cases hq;exact hp⟩
  ·exact h.ok l hl
theorem inv_do(h:Inv N D)(hN:N≤999999980){o:Int}(ho:Fits o){p:OpD}(hp:p.Ok):Inv (N+3) (do_ D o p).2:=by
 unfold do_
 split
 ·exact(ik h).more (by omega)
 ·exact Ef h hN ho hp
theorem bP(h:Inv N D){o:Int}(ho:Fits o):Inv (N+3) (exit D o):=by
 unfold exit
 split
 ·obtain⟨K,h1,h2⟩:=h.base
  refine⟨(cm h.now ho).more (by omega),⟨K,h1,by rw[laNz,lbQz];omega⟩,fun l hl=> ?_⟩
  rcases laAz.1 hl with hl|hl
  ·exact h.ok l hl
  ·rcases laGz.1 hl with rfl
   exact⟨ho,nofun⟩
 ·exact h.more (by omega)
end
end Ol
end
end Go.Proofs.YtcicjklhbnipcaaGreatDoor
