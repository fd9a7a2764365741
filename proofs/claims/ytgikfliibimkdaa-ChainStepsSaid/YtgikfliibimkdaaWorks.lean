
/- (No hull here.) -/
import Derived.Test.YtgikfliibimkdaaPull
