/- (empty here: the first shelf text holds all) -/
import Derived.Test.YtjnfccphodjfiaaGreatShelf
